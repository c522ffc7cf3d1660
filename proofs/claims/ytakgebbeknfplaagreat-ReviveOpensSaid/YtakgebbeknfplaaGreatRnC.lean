/-
  FREE PAGES: lists of places in memory; Free of revive: the walk.
-/
import Derived.Test.YtakgebbeknfplaaGreatRnP
import Derived.Test.YtakgebbeknfplaaGreatTrd
import Derived.Test.YtakgebbeknfplaaGreatOpn
import Derived.Test.YtakgebbeknfplaaGreatSeG
namespace Go.Proofs.YtakgebbeknfplaaGreat
open Go.RowKit Go.ChangeShapes Go.WideShapes
set_option linter.unusedVariables false

/-- a place -/
structure Rf where
  pg : Nat
  cm : Nat
  gn : Nat
  deriving DecidableEq
structure Rf.Ok (r : Rf) : Prop where
  pg : r.pg < 4294967296
  cm : r.cm < 18446744073709551616
  gn : r.gn < 65536
def rfV (r : Rf) : Array Value := #[.int .u32 (r.pg : Int), .int .u64 (r.cm : Int), .int .u16 (r.gn : Int)]
structure RfB (w : World) (A : Option Addr) (n c : Nat) (l : List Rf) : Prop where
  len : l.length = n
  cap : n ≤ c
  max : c ≤ maxLen
  cel : ∀ (i : Nat) (r : Rf), l[i]? = some r → ∃ x, A = some x ∧ x.block < w.heap.size ∧ (∀ (j : Nat) (u : Value), (rfV r)[j]? = some u → w.cell? (x.add (i * 3 + j)) = some u)
  ok : ∀ r ∈ l, r.Ok
section
variable {w w' : World} {A : Option Addr} {n c : Nat} {l : List Rf}
theorem RfB.ab (h : RfB w A n c l) (hb : Below w.heap.size w w') : RfB w' A n c l :=
  ⟨h.len, h.cap, h.max, fun i r hr => by
    obtain ⟨x, h1, h2, h3⟩ := h.cel i r hr
    exact ⟨x, h1, Nat.lt_of_lt_of_le h2 hb.size, fun j u hu => by rw [← h3 j u hu]; exact World.cell?_of_block (hb.block _ (by rw [add_block]; exact h2))⟩, h.ok⟩
theorem RfB.at (h : RfB w A n c l) {i : Nat} {r : Rf} (hr : l[i]? = some r) : ∃ x, A = some x ∧ x.block < w.heap.size ∧ ∀ W, Below w.heap.size w W → W.cell? (x.add (i * 3)) = some (.int .u32 (r.pg : Int)) ∧ W.cell? ⟨(x.add (i * 3)).block, (x.add (i * 3)).off + 1, none⟩ = some (.int .u64 (r.cm : Int)) ∧ W.cell? ⟨(x.add (i * 3)).block, (x.add (i * 3)).off + 2, none⟩ = some (.int .u16 (r.gn : Int)) := by
  obtain ⟨x, h1, h2, _⟩ := h.cel i r hr
  refine ⟨x, h1, h2, fun W hW => ?_⟩
  obtain ⟨x', h1', _, h3⟩ := (h.ab hW).cel i r hr
  rw [h1] at h1'
  injection h1' with h1'
  subst h1'
  refine ⟨h3 0 _ rfl, ?_, ?_⟩
  · have := h3 1 _ rfl
    rw [← Go.Deep.add_add] at this
    exact this
  · have := h3 2 _ rfl
    rw [← Go.Deep.add_add] at this
    exact this
end
section
variable {H : Type} {enc : TypeId × Value → H} {W : World}
end
def u32V (n : Nat) : Value := .int .u32 (n : Int)
def u32Ok (n : Nat) : Prop := n < 4294967296
theorem u32_wf {n : Nat} (h : u32Ok n) : (Lit.int .u32 (n : Int)).wf = true := by
  unfold u32Ok at h
  have e3 : IntKind.u32.min = 0 := rfl
  have e4 : IntKind.u32.max = 4294967295 := rfl
  simp only [Lit.wf, Bool.and_eq_true, decide_eq_true_eq]
  omega
theorem u32_K : KeyK Tryz.prog 41 u32V u32Ok where
  keyed := Maps.int_keyed Tryz.underlying41
  of := fun h => ⟨_, Maps.keyOf_int_mk Tryz.underlying41 (u32_wf h)⟩
  inj := fun {x y} h => by
    unfold u32V at h
    injection h with _ h
    omega
theorem zero_bo' (w : World) : (zeroValue 4).run Tryz.prog w = .ok (.bool false) w := by kernel_rfl
theorem look_putC {κ : Type} [DecidableEq κ] (l : List (κ × Value)) (x y : κ) (v : Value) (hx : lookL x l = none) : lookL y (putL x v l) = if x = y then some v else lookL y l := by
  unfold putL
  rw [hx]
  simp only [Option.isSome_none, Bool.false_eq_true, if_false]
  unfold lookL at hx ⊢
  rw [List.find?_append]
  by_cases e : x = y
  · subst e
    rw [Option.map_eq_none_iff] at hx
    rw [hx]
    simp
  · rw [if_neg e]
    cases l.find? (fun p => decide (p.1 = y)) <;> simp [e]
def FreeR (z : Int) (ps : List Nat) (w : World) (e : Ending) (w' : World) : Prop := ∃ v, e = .returned (.tuple #[v, .int .i64 ((freeP z ps).2 : Int)]) ∧ RuB w' w.heap.size v (freeP z ps).1 ∧ Below w.heap.size w w'
theorem dropP_len (l : RnL) (p : Nat) : (dropP l p).length ≤ l.length + 2 := by
  have h1 := mkR_le (l.getD (placeR l p) (0, 0)).1 p
  have h2 := mkR_le (p + 1) (l.getD (placeR l p) (0, 0)).2
  have h3 := placeR_le l p
  unfold dropP
  rw [List.length_append, List.length_append, List.length_append, List.length_take, List.length_drop]
  omega
theorem foldD_len : ∀ (ps : List Nat) (l : RnL), (foldD l ps).length ≤ l.length + 2 * ps.length
  | [], l => Nat.le_refl _
  | p :: r, l => by
    have h1 := foldD_len r (dropP l p)
    have h2 := dropP_len l p
    rw [foldD, List.length_cons]
    omega
theorem row_notMapR {w : World} {κ : Type} {kv : κ → Value} {ok : κ → Prop} {B m n sz : Nat} {e : TypeId} {v : Value} {xs : List Value} {vs : List (κ × Value)} (h : w.ownsRow B e sz v n xs) (hm : MapB kv ok w m vs) : v.ownBlock ≠ some m := by
  obtain ⟨es, c, h1, _⟩ := hm
  intro q
  rcases h.2 with ⟨rfl, _⟩ | ⟨g, cap, cur, rfl, _, hh, _⟩
  · cases q
  · have : g = m := by injection q
    subst this
    rw [h1] at hh
    cases hh
set_option maxRecDepth 100000 in
set_option maxHeartbeats 8000000 in
theorem rvFree_any (z : Int) (A : Option Addr) (n c : Nat) (l : List Rf) (w : World) (h : RfB w A n c l) (hn : n ≤ 9000) :
    Calls Tryz.prog 77 #[.int .i64 z, .slice A n c] w (FreeR z (l.map (·.pg)) w) := by
  have HR := Lib.hid h
  have hnb : (n : Int) ≤ 9000 := by omega
  have HN := Lib.hid hn
  by_cases hz : z < 8 ∨ 4096 < z
  · have hp : freeP z (l.map (·.pg)) = ([], 2) := by unfold freeP; rw [if_pos hz]
    unfold FreeR
    rw [hp]
    rcases hz with hz | hz
    · have hd : decide (z < 8) = true := decide_eq_true hz
      clear h hn hp
      go_enter Tryz.func77, Tryz.ntmps77
      go_wp2_with fail
      go_ret2
      exact ⟨_, rfl, RuB.nil _ _, Below.refl _ _⟩
    · have hd : decide (4096 < z) = true := decide_eq_true hz
      have hd2 : ¬ z < 8 := by omega
      clear h hn hp
      go_enter Tryz.func77, Tryz.ntmps77
      go_wp2_with fail
      go_ret2
      exact ⟨_, rfl, RuB.nil _ _, Below.refl _ _⟩
  obtain ⟨b, rfl⟩ : ∃ b : Nat, z = (b : Int) := ⟨z.toNat, by omega⟩
  have hb8 : ¬ (b : Int) < 8 := by omega
  have hb4 : ¬ (4096 : Int) < (b : Int) := by omega
  have HZ : Hid (8 ≤ b ∧ b ≤ 4096) := Lib.hid (by omega)
  have HF : Hid (freeP (b : Int) (l.map (·.pg)) = if (l.map (·.pg)).any (fun p => decide (p < 2) || decide (b ≤ p)) = true then ([], 2) else if (l.map (·.pg)).Nodup then (leftO b (l.map (·.pg)), 0) else ([], 8)) := Lib.hid (by unfold freeP; rw [if_neg hz]; rfl)
  clear h hn hz
  go_enter Tryz.func77, Tryz.ntmps77
  go_wp2_with fail
  go_loopw [21] (fun z wx => ∃ i : Nat, i ≤ n ∧ z = .int .i64 (i : Int) ∧ (∀ p ∈ (l.map (·.pg)).take i, 2 ≤ p ∧ p < b) ∧ Below w.heap.size w wx) (fun z _ => n - (intOf z).toNat)
  case atStart => exact ⟨0, Nat.zero_le _, rfl, fun p hp => by simp at hp, Below.refl _ _⟩
  case round =>
    obtain ⟨i, hi, rfl, hal, hb⟩ := hrel
    have HB := Lib.hid hb
    have HA := Lib.hid hal
    clear hb hal
    by_cases hlt : i < n
    · obtain ⟨r, hr⟩ : ∃ r, l[i]? = some r := ⟨_, List.getElem?_eq_getElem (by rw [HR.out.len]; exact hlt)⟩
      obtain ⟨x, rfl, hxl, hcel⟩ := HR.out.at hr
      have hlti : (i : Int) < (n : Int) := by omega
      have HLT := Lib.hid hlt
      have hro := HR.out.ok r (List.mem_of_getElem? hr)
      have hpg := hro.pg
      have HTK : Hid ((l.map (·.pg)).take (i + 1) = (l.map (·.pg)).take i ++ [r.pg]) := Lib.hid (by rw [List.take_add_one, List.getElem?_map, hr]; rfl)
      have HMEM : Hid (r.pg ∈ l.map (·.pg)) := Lib.hid (List.mem_map.2 ⟨r, List.mem_of_getElem? hr, rfl⟩)
      have BA : Hid (Below w.heap.size w (wr.alloc (.cells #[.int .u32 (r.pg : Int), .int .u64 (r.cm : Int), .int .u16 (r.gn : Int)] 59))) := Lib.hid (HB.out.alloc HB.out.size _)
      have hwp : IntKind.i64.wrap (r.pg : Int) = (r.pg : Int) := by rw [IntWalk.i64_in _ (by omega)]
      have r0 : wr.cell? (x.add (i * 3)) = some (.int .u32 (r.pg : Int)) := (hcel _ HB.out).1
      have r1 : wr.cell? ⟨(x.add (i * 3)).block, (x.add (i * 3)).off + 1, none⟩ = some (.int .u64 (r.cm : Int)) := (hcel _ HB.out).2.1
      have r2 : wr.cell? ⟨(x.add (i * 3)).block, (x.add (i * 3)).off + 2, none⟩ = some (.int .u16 (r.gn : Int)) := (hcel _ HB.out).2.2
      clear hlt hi hr hxl hcel hro hpg
      by_cases h1 : r.pg < 2
      · have d1 : decide ((r.pg : Int) < 2) = true := decide_eq_true (by omega)
        have hs : Hid (freeP (b : Int) (l.map (·.pg)) = ([], 2)) := Lib.hid (by rw [HF.out, if_pos (List.any_eq_true.2 ⟨r.pg, HMEM.out, by simp [h1]⟩)])
        have d2 : (r.pg : Int) < 2 := by omega
        clear h1
        go_wp2_with fail
        go_ret2
        unfold FreeR
        rw [hs.out]
        exact ⟨_, rfl, RuB.nil _ _, BA.out⟩
      · have d1 : ¬ (r.pg : Int) < 2 := by omega
        by_cases h2 : b ≤ r.pg
        · have d2 : (b : Int) ≤ (r.pg : Int) := by omega
          have d3 : decide (b ≤ r.pg) = true := decide_eq_true h2
          have hs : Hid (freeP (b : Int) (l.map (·.pg)) = ([], 2)) := Lib.hid (by rw [HF.out, if_pos (List.any_eq_true.2 ⟨r.pg, HMEM.out, by simp [h2]⟩)])
          clear h1 h2
          go_wp2_with fail
          go_ret2
          unfold FreeR
          rw [hs.out]
          exact ⟨_, rfl, RuB.nil _ _, BA.out⟩
        · have d2 : ¬ (b : Int) ≤ (r.pg : Int) := by omega
          have d3 : decide (b ≤ r.pg) = false := decide_eq_false h2
          have hs : Hid (∀ p ∈ (l.map (·.pg)).take (i + 1), 2 ≤ p ∧ p < b) := Lib.hid fun p hp => by
            rw [HTK.out] at hp
            rcases List.mem_append.1 hp with hp | hp
            · exact HA.out p hp
            · rw [List.mem_singleton] at hp
              subst hp
              omega
          clear h1 h2
          go_wp2_with fail
          go_roundw
          case rel => exact ⟨i + 1, HLT.out, by go_num, hs.out, BA.out⟩
          case measure => simp [intOf]; have := HLT.out; omega
    · obtain rfl : i = n := by omega
      have HG : Hid (∀ p ∈ l.map (·.pg), 2 ≤ p ∧ p < b) := Lib.hid (by
        have := HA.out
        rwa [List.take_of_length_le (by rw [List.length_map, HR.out.len]; exact Nat.le_refl _)] at this)
      have HF2 : Hid (freeP (b : Int) (l.map (·.pg)) = if (l.map (·.pg)).Nodup then (leftO b (l.map (·.pg)), 0) else ([], 8)) := Lib.hid (by
        rw [HF.out, if_neg]
        rw [Bool.not_eq_true, List.any_eq_false]
        intro p hp
        have := HG.out p hp
        simp
        omega)
      have hmm : ∀ W : World, (Instr.makeMap 217 none).run Tryz.prog W = .ok (.map (some W.heap.size)) (W.alloc (.map #[] 0)) := fun _ => rfl
      have hcv : IntKind.u32.wrap (b : Int) = (b : Int) := wrap_u32 _ (by omega) (by omega)
      have M1 : Hid (MapB u32V u32Ok (wr.alloc (.map #[] 0)) wr.heap.size []) := Lib.hid (MapB.new _ _ _)
      have B1 := Lib.hid (HB.out.alloc HB.out.size (.map #[] 0))
      have HMS : Hid (w.heap.size ≤ wr.heap.size) := Lib.hid HB.out.size
      clear hlt hi HA HB
      obtain ⟨w1, hw1⟩ : ∃ w1, wr.alloc (.map #[] 0) = w1 := ⟨_, rfl⟩
      have HW := Lib.hid hw1
      clear hw1
      go_wp2_with fail
      rw [HW.out] at M1 B1 ⊢
      clear HW
      generalize wr.heap.size = ms at *
      refine (make_any 2 b w1).mono ?_
      rintro e w2 ⟨v2, rfl, hv2, hb2⟩
      have M2 := Lib.hid (M1.out.ab hb2)
      have B2 := Lib.hid (below_tr B1.out hb2 B1.out.size)
      have V2 := Lib.hid (hv2.lower B1.out.size)
      clear hb2 hv2 M1 B1 hmm hcv
      go_wp2_with fail
      go_loopw [42, 9] (fun z v wx => ∃ (j : Nat) (m : List (Nat × Value)), j ≤ i ∧ z = .int .i64 (j : Int) ∧ ((l.map (·.pg)).take j).Nodup ∧ MapB u32V u32Ok wx ms m ∧ (∀ x, lookL x m = if x ∈ (l.map (·.pg)).take j then some (.bool true) else none) ∧ RuB wx w.heap.size v (foldD (mkR 2 b) ((l.map (·.pg)).take j)) ∧ Below w.heap.size w wx) (fun z _ _ => i - (intOf z).toNat)
      case atStart => exact ⟨0, [], Nat.zero_le _, rfl, List.nodup_nil, M2.out, fun x => by simp; rfl, V2.out, B2.out⟩
      case round =>
        obtain ⟨j, m, hj, rfl, hnd, hm, hlk, hv, hb⟩ := hrel
        have HB := Lib.hid hb
        have HV := Lib.hid hv
        have HM := Lib.hid hm
        have HK := Lib.hid hlk
        have HD := Lib.hid hnd
        clear hb hv hm hlk hnd
        by_cases hlt : j < i
        · obtain ⟨r, hr⟩ : ∃ r, l[j]? = some r := ⟨_, List.getElem?_eq_getElem (by rw [HR.out.len]; exact hlt)⟩
          obtain ⟨x, rfl, hxl, hcel⟩ := HR.out.at hr
          have hlti : (j : Int) < (i : Int) := by omega
          have HLT := Lib.hid hlt
          have hro := HR.out.ok r (List.mem_of_getElem? hr)
          have POK : Hid (u32Ok r.pg) := Lib.hid hro.pg
          have HTK : Hid ((l.map (·.pg)).take (j + 1) = (l.map (·.pg)).take j ++ [r.pg]) := Lib.hid (by rw [List.take_add_one, List.getElem?_map, hr]; rfl)
          have PG : Hid (2 ≤ r.pg ∧ r.pg < b) := Lib.hid (HG.out _ (List.mem_map.2 ⟨r, List.mem_of_getElem? hr, rfl⟩))
          have A3 : Hid (Below wr.heap.size wr (wr.alloc (.cells #[.int .u32 (r.pg : Int), .int .u64 (r.cm : Int), .int .u16 (r.gn : Int)] 59))) := Lib.hid ((Below.refl _ _).alloc (Nat.le_refl _) _)
          have B3 := Lib.hid (below_tr HB.out A3.out HB.out.size)
          have M3 := Lib.hid (HM.out.ab A3.out)
          have V3 := Lib.hid (HV.out.ab A3.out)
          have X3 : Hid (CbB (wr.alloc (.cells #[.int .u32 (r.pg : Int), .int .u64 (r.cm : Int), .int .u16 (r.gn : Int)] 59)) wr.heap.size 59 #[.int .u32 (r.pg : Int), .int .u64 (r.cm : Int), .int .u16 (r.gn : Int)]) := Lib.hid (CbB.new _ _ _)
          have MN : Hid (wr.heap.size ≠ ms) := Lib.hid (by have := HM.out.lt; omega)
          have r0 : wr.cell? (x.add (j * 3)) = some (.int .u32 (r.pg : Int)) := (hcel _ HB.out).1
          have r1 : wr.cell? ⟨(x.add (j * 3)).block, (x.add (j * 3)).off + 1, none⟩ = some (.int .u64 (r.cm : Int)) := (hcel _ HB.out).2.1
          have r2 : wr.cell? ⟨(x.add (j * 3)).block, (x.add (j * 3)).off + 2, none⟩ = some (.int .u16 (r.gn : Int)) := (hcel _ HB.out).2.2
          by_cases hin : r.pg ∈ (l.map (·.pg)).take j
          · have hl : (Instr.lookup 217 (.map (some ms)) (.int .u32 (r.pg : Int)) false).run Tryz.prog (wr.alloc (.cells #[.int .u32 (r.pg : Int), .int .u64 (r.cm : Int), .int .u16 (r.gn : Int)] 59)) = .ok (.bool true) (wr.alloc (.cells #[.int .u32 (r.pg : Int), .int .u64 (r.cm : Int), .int .u16 (r.gn : Int)] 59)) := M3.out.look_some (x := r.pg) u32_K Tryz.underlying217 POK.out (by rw [HK.out, if_pos hin]) false
            have hs : Hid (freeP (b : Int) (l.map (·.pg)) = ([], 8)) := Lib.hid (by
              rw [HF2.out, if_neg]
              intro hn
              have h2 := (List.take_append_drop (j + 1) (l.map (·.pg))).symm
              rw [h2, List.nodup_append] at hn
              have h3 := hn.1
              rw [HTK.out, List.nodup_append] at h3
              exact h3.2.2 _ hin _ (List.mem_singleton.2 rfl) rfl)
            clear hin hlt hj hr hxl hcel hro
            go_wp2_with fail
            go_ret2
            unfold FreeR
            rw [hs.out]
            exact ⟨_, rfl, RuB.nil _ _, B3.out⟩
          · have hl : (Instr.lookup 217 (.map (some ms)) (.int .u32 (r.pg : Int)) false).run Tryz.prog (wr.alloc (.cells #[.int .u32 (r.pg : Int), .int .u64 (r.cm : Int), .int .u16 (r.gn : Int)] 59)) = .ok (.bool false) (wr.alloc (.cells #[.int .u32 (r.pg : Int), .int .u64 (r.cm : Int), .int .u16 (r.gn : Int)] 59)) := M3.out.look_none (x := r.pg) u32_K Tryz.underlying217 POK.out (by rw [HK.out, if_neg hin]) (zero_bo' _) false
            have hND : ((l.map (·.pg)).take (j + 1)).Nodup := by
              rw [HTK.out, List.nodup_append]
              exact ⟨HD.out, by simp, fun a ha c hc e => hin (by rw [List.mem_singleton] at hc; rw [← hc, ← e]; exact ha)⟩
            have HD2 := Lib.hid hND
            have HK2 : Hid (∀ y, lookL y (putL r.pg (.bool true) m) = if y ∈ (l.map (·.pg)).take (j + 1) then some (.bool true) else none) := Lib.hid fun y => by
              rw [look_putC m r.pg y (.bool true) (by rw [HK.out, if_neg hin]), HK.out, HTK.out]
              by_cases e : r.pg = y
              · rw [if_pos e, if_pos (by rw [e]; simp)]
              · rw [if_neg e]
                have : (y ∈ (l.map (·.pg)).take j ++ [r.pg]) ↔ y ∈ (l.map (·.pg)).take j := by
                  rw [List.mem_append, List.mem_singleton]
                  exact ⟨fun h => h.elim id (fun h => absurd h.symm e), Or.inl⟩
                by_cases h : y ∈ (l.map (·.pg)).take j
                · rw [if_pos h, if_pos (this.2 h)]
                · rw [if_neg h, if_neg (fun q => h (this.1 q))]
            have hfold := foldD_law ((l.map (·.pg)).take j) (mkR 2 b) (Rgt.mk _ _) HD.out (fun p hp => by
              rw [pagesR_mk, List.mem_range'_1]
              have := HG.out p (List.mem_of_mem_take hp)
              omega)
            have hpin : r.pg ∈ pagesR (foldD (mkR 2 b) ((l.map (·.pg)).take j)) := by
              rw [hfold.2, List.mem_filter, pagesR_mk, List.mem_range'_1]
              exact ⟨by have := PG.out; omega, decide_eq_true hin⟩
            have HRI := Lib.hid hfold.1.right
            have HHS := Lib.hid (hfold.1.drop hpin).1
            have HBD : Hid (∀ q ∈ foldD (mkR 2 b) ((l.map (·.pg)).take j), q.2 < 4294967296) := Lib.hid fun q hq => by
              have h1 := hfold.1.2 q hq
              have h2 : q.2 - 1 ∈ pagesR (foldD (mkR 2 b) ((l.map (·.pg)).take j)) := mem_pagesR.2 ⟨q, hq, by omega, by omega⟩
              rw [hfold.2, List.mem_filter, pagesR_mk, List.mem_range'_1] at h2
              have := HZ.out
              omega
            have HLB : Hid ((foldD (mkR 2 b) ((l.map (·.pg)).take j)).length ≤ 100000) := Lib.hid (by
              have h1 := foldD_len ((l.map (·.pg)).take j) (mkR 2 b)
              have h2 := mkR_le 2 b
              have h3 := HN.out
              rw [List.length_take, List.length_map] at h1
              omega)
            have HFS : Hid (foldD (mkR 2 b) ((l.map (·.pg)).take (j + 1)) = dropP (foldD (mkR 2 b) ((l.map (·.pg)).take j)) r.pg) := Lib.hid (by rw [HTK.out, foldD_snoc])
            clear hin hlt hj hr hxl hcel hro hND hfold hpin
            go_wp2_with (refine wpList_mapPut rfl (.tmp 50) (.tmp 52) (.const (.bool true)) rfl u32_K Tryz.underlying217 rfl M3.out r.pg POK.out rfl (.bool true) rfl ?_
                         intro w4 m4 g4 s4 b4
                         have M4 := Lib.hid m4
                         have X4 := Lib.hid (X3.out.grown g4 MN.out)
                         have B4 := Lib.hid (b4 _ _ B3.out HMS.out)
                         have V4 : Hid (RuB w4 w.heap.size u9 (foldD (mkR 2 b) ((l.map (·.pg)).take j))) := Lib.hid (World.ownsRow.kept V3.out g4 (.inr (row_notMapR V3.out M3.out)))
                         have x0 := X4.out.cell (k := 0) rfl
                         clear m4 g4 s4 b4)
            obtain ⟨A4, c4, rfl, hr4, _⟩ := V4.out.rn
            refine (drop_ok A4 _ c4 r.pg _ w4 hr4 HRI.out HHS.out HBD.out HLB.out).mono ?_
            rintro e w5 ⟨v5, rfl, hv5, hb5⟩
            have V5 : Hid (RuB w5 w.heap.size v5 (foldD (mkR 2 b) ((l.map (·.pg)).take (j + 1)))) := Lib.hid (by rw [HFS.out]; exact hv5.lower B4.out.size)
            have M5 := Lib.hid (M4.out.ab hb5)
            have B5 := Lib.hid (below_tr B4.out hb5 B4.out.size)
            clear hv5 hb5 hr4 V4 M4 X4 x0 B4
            go_wp2_with fail
            go_roundw
            case rel => exact ⟨j + 1, _, HLT.out, by go_num, HD2.out, M5.out, HK2.out, V5.out, B5.out⟩
            case measure => simp [intOf]; have := HLT.out; omega
        · obtain rfl : j = i := by omega
          have htk : (l.map (·.pg)).take j = l.map (·.pg) := List.take_of_length_le (by rw [List.length_map, HR.out.len]; exact Nat.le_refl _)
          rw [htk] at HD HV
          have hs : Hid (freeP (b : Int) (l.map (·.pg)) = (leftO b (l.map (·.pg)), 0)) := Lib.hid (by rw [HF2.out, if_pos HD.out])
          have hfl : foldD (mkR 2 b) (l.map (·.pg)) = leftO b (l.map (·.pg)) := free_law (by have := HZ.out; omega) HD.out HG.out
          rw [hfl] at HV
          clear htk hfl hlt hj
          go_wp2_with fail
          go_ret2
          unfold FreeR
          rw [hs.out]
          exact ⟨_, rfl, HV.out, HB.out⟩
end Go.Proofs.YtakgebbeknfplaaGreat
