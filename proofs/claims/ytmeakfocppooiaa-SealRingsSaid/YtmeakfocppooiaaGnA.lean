/-
  THE GENERATIONS THAT A RING HAS: Gens, Newest, Drop of the program's ring: the walks.
-/
import Derived.Test.YtmeakfocppooiaaNm16
import Derived.Test.YtmeakfocppooiaaRkB
import Derived.Deep.LoopGhost
namespace Go.Proofs.Ytmeakfocppooiaa
open Go.RowKit
set_option linter.unusedVariables false

def gensK (t : Nat) (ks : List (Nat × Nat)) : List Nat := (ks.filter fun p => decide (p.1 = t)).map (·.2)
theorem gensK_snoc (t : Nat) (ks : List (Nat × Nat)) (p : Nat × Nat) : gensK t (ks ++ [p]) = gensK t ks ++ (if p.1 = t then [p.2] else []) := by
  unfold gensK
  rw [List.filter_append, List.map_append]
  by_cases h : p.1 = t <;> simp [h]
theorem gensK_mem {t : Nat} {ks : List (Nat × Nat)} {x : Nat} : x ∈ gensK t ks ↔ (t, x) ∈ ks := by
  unfold gensK
  simp only [List.mem_map, List.mem_filter, decide_eq_true_eq]
  constructor
  · rintro ⟨⟨a, b⟩, ⟨h1, h2⟩, h3⟩
    simp only at h2 h3
    rw [← h2, ← h3]
    exact h1
  · intro h
    exact ⟨(t, x), ⟨h, rfl⟩, rfl⟩
theorem gensK_nodup {t : Nat} {ks : List (Nat × Nat)} (h : ks.Nodup) : (gensK t ks).Nodup := by
  induction ks with
  | nil => simp [gensK]
  | cons p r ih =>
    obtain ⟨h1, h2⟩ := List.nodup_cons.1 h
    unfold gensK at ih ⊢
    by_cases e : p.1 = t
    · rw [List.filter_cons_of_pos (by simpa using e), List.map_cons]
      refine List.nodup_cons.2 ⟨fun hm => h1 ?_, ih h2⟩
      have := gensK_mem.1 hm
      rwa [← e] at this
    · rw [List.filter_cons_of_neg (by simpa using e)]
      exact ih h2
theorem gensK_len (t : Nat) (ks : List (Nat × Nat)) : (gensK t ks).length ≤ ks.length := by
  unfold gensK
  rw [List.length_map]
  exact List.length_filter_le _ _
theorem gens_one {t : Nat} {a b : List (Nat × Nat)} (ha : a.Nodup) (hb : b.Nodup) (h : ∀ x, x ∈ a ↔ x ∈ b) : U16.srt (gensK t a) = U16.srt (gensK t b) :=
  U16.asc_eq (U16.srt_asc _ (gensK_nodup ha)) (U16.srt_asc _ (gensK_nodup hb)) fun x => by rw [U16.srt_mem, U16.srt_mem, gensK_mem, gensK_mem, h]
theorem RgV.keys {w : World} {B : Nat} : ∀ {vs : List ((Nat × Nat) × Value)} {l : RgL}, RgV w B vs l → vs.map (·.1) = l.map (·.1)
  | [], [], _ => rfl
  | p :: ps, q :: qs, h => by rw [List.map_cons, List.map_cons, h.1.1, RgV.keys h.2]
  | [], _ :: _, h => h.elim
  | _ :: _, [], h => h.elim
theorem nsb_ne {w : World} {B r b : Nat} {v : Value} {l : List Nat} {vs d : List ((Nat × Nat) × Value)} (h : U16.NsB w B v l) (hr : RngB whV whOk w b r vs d) : v.ownBlock ≠ some r := by
  obtain ⟨es, clock, since, seen, c0, h1, h2, h3, h4, h5, _⟩ := hr
  rcases h.2 with ⟨rfl, _⟩ | ⟨g, cap, cur, rfl, _, hb, _⟩
  · simp [Value.ownBlock]
  · intro e
    simp only [Value.ownBlock, Option.some.injEq] at e
    subst e
    rw [hb] at h5
    cases h5
theorem nsb_notMap {w : World} {B m : Nat} {v : Value} {l : List Nat} {vs : List ((Nat × Nat) × Value)} (h : U16.NsB w B v l) (hm : MapB whV whOk w m vs) : v.ownBlock ≠ some m := by
  obtain ⟨es, clock, h1, _⟩ := hm
  rcases h.2 with ⟨rfl, _⟩ | ⟨g, cap, cur, rfl, _, hb, _⟩
  · simp [Value.ownBlock]
  · intro e
    simp only [Value.ownBlock, Option.some.injEq] at e
    subst e
    rw [hb] at h1
    cases h1
set_option maxRecDepth 100000 in
set_option maxHeartbeats 4000000 in
theorem gens_any (B g m t : Nat) (l : RgL) (w : World) (h : RgB w B g m l) (ht : t < 4294967296) (hl : l.length ≤ 1000) :
    Calls Try.prog 57 #[.pointer (some ⟨g, 0, none⟩), .int .u32 (t : Int)] w fun e w' => ∃ v, e = .returned v ∧ U16.NsB w' w.heap.size v (U16.srt (gensK t (l.map (·.1)))) ∧ Below w.heap.size w w' := by
  have hcell := h.cell
  obtain ⟨vs, hm, hv⟩ := h.map
  have KS := Lib.hid hv.keys
  have VN : Hid (vs.length ≤ 1000) := Lib.hid (by have := congrArg List.length hv.keys; simp at this; omega)
  have ND := Lib.hid (hm.nodup wh_K)
  have M0 := Lib.hid hm
  have ML := Lib.hid hm.lt
  clear h hm hv hl ht
  go_enter Try.func57, Try.ntmps57
  go_wp2_with (first
    | (refine wpList_mapRange rfl (.tmp 12) rfl Try.underlying171 rfl M0.out ?_
       intro w1 r1 b1 s1
       have R1 := Lib.hid r1
       have B1 := Lib.hid b1
       clear r1 b1 s1
       simp [Act.put]))
  go_loopg [5] (vs.length) (fun k v wr => ∃ d, vs.length - d.length ≤ k ∧ RngB whV whOk wr m w.heap.size vs d ∧ U16.NsB wr w.heap.size v (gensK t (d.map (·.1))) ∧ Below w.heap.size w wr ∧ w.heap.size < wr.heap.size)
  case atStart => exact ⟨[], by simp, R1.out, U16.NsB.nil _ _, B1.out, R1.out.lt⟩
  case round =>
    obtain ⟨d, hk, hr, hn, hb, hs⟩ := hrel
    have HK := Lib.hid hk
    have N1 := Lib.hid hn
    have NB := Lib.hid hb
    have NS := Lib.hid hs
    have DL : Hid ((gensK t (d.map (·.1))).length ≤ 1000) := Lib.hid (by have h1 := gensK_len t (d.map (·.1)); have h2 := hr.len_le; have h3 := VN.out; rw [List.length_map] at h1; omega)
    have RNE := Lib.hid (nsb_ne hn hr)
    rcases hr.next wh_K 0 with ⟨hall, hrun⟩ | ⟨p, w2, hp, hd, hrun, hr2, hg2, hs2, hent, hbel⟩
    · have GO : Hid (U16.srt (gensK t (d.map (·.1))) = U16.srt (gensK t (l.map (·.1)))) := Lib.hid (by
        rw [← KS.out]
        obtain ⟨_, _, _, _, _, _, _, _, _, _, _, _, _, _, hsub, hnd⟩ := hr
        refine gens_one hnd ND.out fun x => ?_
        simp only [List.mem_map]
        constructor
        · rintro ⟨q, h1, h2⟩; exact ⟨q, hsub q h1, h2⟩
        · rintro ⟨q, h1, h2⟩; exact ⟨q, hall q h1, h2⟩)
      clear hk hr hn hb hs hall
      go_wp2_with (first
        | (go_at_call 90
           refine (U16.sort_own w.heap.size _ _ _ N1.out (by have := DL.out; omega)).mono ?_
           rintro e w3 ⟨rfl, h3, g3⟩
           have N3 := Lib.hid h3
           have B3 := Lib.hid (U16.below_grownO NB.out g3 (own_ge9 N1.out) (Nat.le_of_lt NS.out))
           clear h3 g3))
      go_ret
      exact ⟨_, rfl, by rw [← GO.out]; exact N3.out, B3.out⟩
    · obtain ⟨⟨pt, pg⟩, pv⟩ := p
      simp only [whV] at hrun hent
      have HN := Lib.hid hr2
      have HM : Hid (d.length < vs.length) := Lib.hid (by have := hr2.len_le; simp at this; omega)
      have N2 : Hid (U16.NsB w2 w.heap.size u5 (gensK t (d.map (·.1)))) := Lib.hid (hn.kept hg2 (.inr RNE.out))
      have B2 := Lib.hid (hbel _ _ hb (Nat.le_refl _))
      have S2 : Hid (w.heap.size < w2.heap.size) := Lib.hid (by rw [hs2]; exact hs)
      clear hk hr hn hb hs hp hd hr2 hg2 hs2 hbel
      by_cases e1 : pt = t
      · have d1 : ((pt : Int) == (t : Int)) = true := by simp [e1]
        have NX : Hid (gensK t ((d ++ [((pt, pg), pv)]).map (·.1)) = gensK t (d.map (·.1)) ++ [pg]) := Lib.hid (by rw [List.map_append, List.map_cons, List.map_nil, gensK_snoc]; simp [e1])
        clear e1
        have GC : Hid (CbB ((w2.alloc (.cells #[.int .u32 (pt : Int), .int .u16 (pg : Int)] 178)).alloc (.cells #[.int .u16 (pg : Int)] 31)) (w2.heap.size + 1) 31 #[.int .u16 (pg : Int)]) := Lib.hid (by
          have := CbB.new (w2.alloc (.cells #[.int .u32 (pt : Int), .int .u16 (pg : Int)] 178)) 31 #[.int .u16 (pg : Int)]
          rwa [World.size_alloc] at this)
        go_wp2_with (first
          | (refine U16.wpList_appN rfl (.tmp 22) (.tmp 25) rfl (B := w.heap.size) ((N2.out.ab ((Below.refl _ _).alloc (Nat.le_refl _) _)).ab ((Below.refl _ _).alloc (Nat.le_refl _) _)) rfl pg rfl GC.out (by have := DL.out; omega) (by have := S2.out; simp; omega) ?_
             intro v5 w5 h5 g5
             have b3 : Below w2.heap.size w2 ((w2.alloc (.cells #[.int .u32 (pt : Int), .int .u16 (pg : Int)] 178)).alloc (.cells #[.int .u16 (pg : Int)] 31)) := ((Below.refl _ _).alloc (Nat.le_refl _) _).alloc (by simp) _
             have N5 := Lib.hid h5
             have R5 := Lib.hid ((HN.out.ab b3).grown g5 (nsb_notMap ((N2.out.ab b3)) (HN.out.ab b3).mapB) (nsb_ne (N2.out.ab b3) (HN.out.ab b3)))
             have B5 := Lib.hid (U16.below_grownO (below_tr B2.out b3 (Nat.le_of_lt S2.out)) g5 (own_ge9 N2.out) (Nat.le_trans (Nat.le_of_lt S2.out) b3.size))
             have S5 : Hid (w.heap.size < w5.heap.size) := Lib.hid (Nat.lt_of_lt_of_le S2.out (Nat.le_trans b3.size g5.size))
             clear h5 g5 b3))
        go_roundg (vs.length - (d.length + 1))
        case measure => have := HM.out; have := HK.out; omega
        case rel => exact ⟨_, by simp, R5.out, by rw [NX.out]; exact N5.out, B5.out, S5.out⟩
      · have d1 : ((pt : Int) == (t : Int)) = false := by simp; omega
        have NX : Hid (gensK t ((d ++ [((pt, pg), pv)]).map (·.1)) = gensK t (d.map (·.1))) := Lib.hid (by rw [List.map_append, List.map_cons, List.map_nil, gensK_snoc]; simp [e1])
        clear e1
        go_wp2_with fail
        go_roundg (vs.length - (d.length + 1))
        case measure => have := HM.out; have := HK.out; omega
        case rel =>
          have b3 : Below w2.heap.size w2 (w2.alloc (.cells #[.int .u32 (pt : Int), .int .u16 (pg : Int)] 178)) := (Below.refl _ _).alloc (Nat.le_refl _) _
          exact ⟨_, by simp, HN.out.ab b3, by rw [NX.out]; exact N2.out.ab b3, below_tr B2.out b3 (Nat.le_of_lt S2.out), Nat.lt_of_lt_of_le S2.out b3.size⟩
/-- the greatest generation -/
def newP (t : Nat) (l : RgL) : Nat × Nat := match (U16.srt (gensK t (l.map (·.1)))).getLast? with | some x => (x, 0) | none => (0, 7)
set_option maxRecDepth 100000 in
theorem newest_any (B g m t : Nat) (l : RgL) (w : World) (h : RgB w B g m l) (ht : t < 4294967296) (hl : l.length ≤ 1000) :
    Calls Try.prog 53 #[.pointer (some ⟨g, 0, none⟩), .int .u32 (t : Int)] w fun e w' => e = .returned (.tuple #[.int .u16 ((newP t l).1 : Int), .int .i64 ((newP t l).2 : Int)]) ∧ Below w.heap.size w w' := by
  have C0 := Lib.hid (gens_any B g m t l w h ht hl)
  have hlen : (U16.srt (gensK t (l.map (·.1)))).length ≤ 1000 := by
    have h1 := gensK_len t (l.map (·.1))
    rw [U16.srt_len]
    rw [List.length_map] at h1
    omega
  unfold newP
  generalize U16.srt (gensK t (l.map (·.1))) = L at C0 hlen ⊢
  rcases List.eq_nil_or_concat L with rfl | ⟨r, x, rfl⟩
  · clear h ht hl hlen
    go_enter Try.func53, Try.ntmps53
    go_wp2_with (first
      | (go_at_call 57
         refine C0.out.mono ?_
         rintro e w1 ⟨v, rfl, hv, hb⟩
         obtain ⟨A, c, rfl, _⟩ := hv.form
         have B1 := Lib.hid hb
         clear hv hb))
    go_ret2
    exact ⟨rfl, B1.out⟩
  · have hk : (r.concat x).length = r.length + 1 := by simp
    obtain ⟨k, hk2⟩ : ∃ k, k = r.length := ⟨_, rfl⟩
    have hkb : (k : Int) ≤ 1000 := by omega
    rw [show (r.concat x).getLast? = some x by simp]
    have HL : Hid ((r.concat x).length = k + 1) := Lib.hid (by omega)
    have HX : Hid (∀ (hi : k < (r.concat x).length), (r.concat x)[k] = x) := Lib.hid fun hi => by simp [hk2]
    clear h ht hl hlen hk hk2
    go_enter Try.func53, Try.ntmps53
    go_wp2_with (first
      | (go_at_call 57
         refine C0.out.mono ?_
         rintro e w1 ⟨v, rfl, hv, hb⟩
         obtain ⟨A, c, rfl, hcc⟩ := hv.form
         obtain ⟨g1, rfl, hcell⟩ := hcc k (by rw [HL.out]; omega)
         rw [HX.out] at hcell
         rw [HL.out]
         have B1 := Lib.hid hb
         clear hv hb hcc))
    go_ret2
    exact ⟨rfl, B1.out⟩
/-- a ring's Drop -/
def dropR (x : Nat × Nat) (l : RgL) : Nat × RgL := match getR x l with | some _ => (0, l.filter fun p => !decide (p.1 = x)) | none => (7, l)
set_option maxRecDepth 100000 in
theorem ringDrop_any (B g m t gn : Nat) (l : RgL) (w : World) (h : RgB w B g m l) (ht : t < 4294967296) (hg : gn < 65536) :
    Calls Try.prog 55 #[.pointer (some ⟨g, 0, none⟩), .int .u32 (t : Int), .int .u16 (gn : Int)] w fun e w' => e = .returned (.int .i64 ((dropR (t, gn) l).1 : Int)) ∧ RgB w' B g m (dropR (t, gn) l).2 ∧ w.grownBy w' (some m) := by
  have hc := h.cell
  obtain ⟨vs, h1, h2⟩ := h.map
  have hok : whOk (t, gn) := ⟨ht, hg⟩
  rcases h2.look (t, gn) with ⟨e1, e2⟩ | ⟨v, k, e1, e2, e3⟩
  · have hlk : (Instr.lookup 171 (.map (some m)) (.agg #[.int .u32 (t : Int), .int .u16 (gn : Int)]) true).run Try.prog w = .ok (.tuple #[.slice none 0 0, .bool false]) w := h1.look_none wh_K Try.underlying171 hok e1 (zero_bytes w) true
    unfold dropR
    rw [e2]
    have H0 := Lib.hid h
    clear h h1 h2 e1 e2 hok ht hg
    go_enter Try.func55, Try.ntmps55
    go_wp2_with fail
    go_ret
    exact ⟨rfl, H0.out, World.grownBy.refl _ _⟩
  · have hlk : (Instr.lookup 171 (.map (some m)) (.agg #[.int .u32 (t : Int), .int .u16 (gn : Int)]) true).run Try.prog w = .ok (.tuple #[v, .bool true]) w := h1.look_some wh_K Try.underlying171 hok e1 true
    obtain ⟨A, cap, rfl, _, _⟩ := e3.shape
    unfold dropR
    rw [e2]
    have M0 := Lib.hid h1
    have HO := Lib.hid hok
    have V0 := Lib.hid (h2.drop (t, gn))
    have HV := Lib.hid h2
    have HB := Lib.hid h
    have GM : Hid (g ≠ m) := Lib.hid (by
      rintro rfl
      obtain ⟨es, clock, q1, _⟩ := h1
      rw [h.box] at q1
      cases q1)
    clear h h1 h2 e1 e2 e3 hok ht hg
    go_enter Try.func55, Try.ntmps55
    go_wp2_with (first
      | (refine wpList_mapDel rfl (.tmp 27) (.tmp 30) rfl wh_K Try.underlying171 rfl M0.out (t, gn) HO.out rfl ?_
         intro w1 m1 g1 s1 b1
         have M1 := Lib.hid m1
         have G1 := Lib.hid g1
         clear m1 g1 s1 b1
         simp [Act.put]))
    go_ret
    refine ⟨rfl, ⟨(G1.out.block g HB.out.lt (fun e => GM.out (Option.some.inj e))).trans HB.out.box, HB.out.low, ⟨_, M1.out, ?_⟩, fun p hp => HB.out.ne p (List.mem_filter.1 hp).1⟩, G1.out⟩
    exact RgV.imp V0.out fun v k hv => hv.grown G1.out (notMap hv M0.out)
end Go.Proofs.Ytmeakfocppooiaa
