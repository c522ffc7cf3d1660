/-
  'dst = append(dst, x)' AT THE END OF A REGION THAT DRAWS ITS ORDER: what was there stays, but for the room behind; loads ahead of it, of whatever slice, that one too.
-/
import Derived.Test.YtpofndciepoooaaOwb
import Derived.Test.YtpofndciepoooaaHd
namespace Go.Proofs.Ytpofndciepoooaa
open Go.RowKit
set_option linter.unusedVariables false

/-- the cells of a world that are there still: all but the room behind the n elements of v -/
def KeepA (w0 : World) (v : Value) (n : Nat) (w' : World) : Prop := ∀ p u, w0.cell? p = some u → (∀ g, v.ownBlock = some g → p.block = g → p.spot = none ∧ p.off < n) → w'.cell? p = some u
theorem KeepA.refl (w : World) (v : Value) (n : Nat) : KeepA w v n w := fun p u h _ => h
theorem KeepA.alloc {w0 w' : World} {v : Value} {n : Nat} (h : KeepA w0 v n w') (o : Obj) : KeepA w0 v n (w'.alloc o) := fun p u hp hq => by
  have := h p u hp hq
  rw [World.cell?_alloc_some _ _ _ (by rw [this]; rfl)]
  exact this
theorem add0 (g j : Nat) : (⟨g, 0, none⟩ : Addr).add j = ⟨g, j, none⟩ := by rw [Addr.add_mid, Nat.zero_add]
/-- v does not lie in block g -/
def ApartB (v : Value) (g : Nat) : Prop := ∀ b, v.ownBlock = some b → b ≠ g
theorem ApartB.nil (g : Nat) : ApartB (.slice none 0 0) g := fun b h => by cases h
theorem ApartB.next {v v' : Value} {g n : Nat} (h : ApartB v g) (hv : v'.ownBlock = v.ownBlock ∨ v'.ownBlock = some n) (hg : g < n) : ApartB v' g := fun b hb => by
  rcases hv with e | e
  · exact h b (by rw [← e]; exact hb)
  · rw [e] at hb
    injection hb with hb
    omega
theorem ApartB.ne {v : Value} {g : Nat} (h : ApartB v g) : some g ≠ v.ownBlock := fun e => h g e.symm rfl
theorem OwB.keptA {w w' : World} {B g n c : Nat} {l : List Nat} {v : Value} (h : OwB w B (.slice (some ⟨g, 0, none⟩) n c) l) (hg : w.grownBy w' v.ownBlock) (ha : ApartB v g) : OwB w' B (.slice (some ⟨g, 0, none⟩) n c) l :=
  h.kept hg (.inr ha.ne)
section
variable {P : Program} (w : World)
/-- .. behind an append all that was read before is there still -/
theorem run_appC {B : Nat} {t ty : TypeId} {i : TypeInfo} {z : Value} (ht : P.underlying t = some (.slice 5)) (hi : P.info? 5 = some i) (hz : i.zero = some z)
    (hsize : i.size = 1) (hby : i.bytes = 1) (hzs : z.cells.size = 1)
    {v : Value} {l : List Nat} (hown : OwB w B v l) {A : Option Addr} {m c : Nat} {ys : List Nat} (hr : IsB w A m c ys) (hm : l.length + m ≤ 140737488355328) (hbase : B ≤ w.heap.size) :
    ∃ v' w', (Builtin.append_ #[t, t] ty #[v, .slice A m c]).run P w = .ok v' w' ∧ OwB w' B v' (l ++ ys) ∧ Below B w w' ∧ w.grownBy w' v.ownBlock ∧ (v'.ownBlock = v.ownBlock ∨ v'.ownBlock = some w.heap.size) ∧ KeepA w v l.length w' := by
  obtain ⟨v', w', h1, h2, h3, h4, h5⟩ := run_appB (P := P) w (ty := ty) ht hi hz hsize hby hzs hown hr hm hbase
  refine ⟨v', w', h1, h2, h3, h4, h5, ?_⟩
  intro p u hp hq
  by_cases hne : some p.block = v.ownBlock
  · obtain ⟨e1, e2⟩ := hq _ hne.symm rfl
    have hpo : p = ⟨p.block, p.off, none⟩ := by cases p; simp at e1; simp [e1]
    have hlpos : 0 < l.length := by omega
    obtain ⟨g, cap, rfl, hBg, hgl, hlc, hcm, hcells⟩ := hown.form hlpos
    have hgb : p.block = g := by simpa [Value.ownBlock] using hne
    by_cases hm0 : m = 0
    · subst hm0
      have hy : ys = [] := List.eq_nil_of_length_eq_zero hr.len
      subst hy
      have : w'.cell? ⟨g, p.off, none⟩ = some (.int .u8 (at' l p.off : Nat)) := by
        rcases h5 with h5 | h5
        · obtain ⟨g', cap', e, _, _, _, _, hc⟩ := h2.form (by simpa using hlpos)
          rw [List.append_nil] at hc e
          subst e
          have : g' = g := by simpa [Value.ownBlock] using h5
          subst this
          exact hc _ e2
        · have hx := run_append_fits (P := P) w B t ty 5 i 1 ht hi hsize g l.length cap _ hown.own ⟨0, 0, none⟩ 0 0 [] rfl (by simp) (by simp) (by omega)
          rcases hr.1.2.2.2.2 with ⟨rfl, rfl⟩ | ⟨x, rfl, _⟩
          · have hz := run_append_owned_none (P := P) w B t ty 5 i 1 ht hi (.slice (some ⟨g, 0, none⟩) l.length cap) _ _ hown.own
            rw [hz] at h1
            injection h1 with h1 h1'
            rw [← h1'] 
            exact hcells _ e2
          · obtain ⟨w2, hz, ho2, hg2⟩ := run_append_fits (P := P) w B t ty 5 i 1 ht hi hsize g l.length cap _ hown.own x 0 c [] rfl (by simp) (by simp) (by omega)
            rw [hz] at h1
            injection h1 with h1 h1'
            subst h1
            have : g = w.heap.size := by simpa [Value.ownBlock] using h5
            omega
      rw [hpo, hgb, this]
      rw [hpo, hgb, hcells _ e2] at hp
      exact hp
    · rcases hr.1.2.2.2.2 with ⟨rfl, hc0⟩ | ⟨x, rfl, hxb, hx⟩
      · have := hr.1.lenCap; omega
      · have hnews : ∀ j u, (bvals ys)[j]? = some u → w.cell? (x.add j) = some u := by
          intro j u hu
          have hj : j < m := by
            rcases Nat.lt_or_ge j m with h' | h'
            · exact h'
            · rw [List.getElem?_eq_none (by simp [bvals, hr.len]; omega)] at hu; cases hu
          obtain ⟨x2, ex, _, hx2⟩ := hr.cell (by omega)
          injection ex with ex
          subst ex
          rw [hx2 j hj]
          have hl2 := hr.len
          simp only [bvals, List.getElem?_map, List.getElem?_eq_getElem (show j < ys.length by omega), Option.map_some] at hu
          simpa [at', List.getElem?_eq_getElem (show j < ys.length by omega)] using hu
        have hl1 : (bvals ys).length = m * 1 := by simp [bvals, hr.len]
        by_cases hroom : l.length + m ≤ cap
        · obtain ⟨w2, hz, ho2, hg2⟩ := run_append_fits (P := P) w B t ty 5 i 1 ht hi hsize g l.length cap _ hown.own x m c (bvals ys) hl1 hnews (by simp [bvals, Value.oneCell']) hroom
          rw [hz] at h1
          injection h1 with h1 h1'
          subst h1'
          have : w2.cell? ⟨g, p.off, none⟩ = (bvals l ++ bvals ys)[p.off]? := ho2.cellAt p.off (by omega)
          rw [hpo, hgb, this, List.getElem?_append_left (by simp [bvals]; exact e2)]
          rw [hpo, hgb, hown.own.cellAt p.off (by omega)] at hp
          exact hp
        · obtain ⟨v2, w2, hz, ho2, hg2⟩ := run_append_arg_grows (P := P) w t ty 5 i z 1 1 ht hi hz hsize hby hzs (by omega) ⟨g, 0, none⟩ l.length cap (bvals l) (by simp [bvals]) (fun j u hu => by
            rw [add0]
            have hj : j < l.length := by
              rcases Nat.lt_or_ge j l.length with h' | h'
              · exact h'
              · rw [List.getElem?_eq_none (by simpa [bvals] using h')] at hu; cases hu
            rw [hown.own.cellAt j (by omega)]
            exact hu) x m c (bvals ys) hl1 hnews (by omega) (by simp only [maxLen]; omega) (by omega)
          rw [hz] at h1
          injection h1 with h1 h1'
          subst h1'
          exact hg2.cell hp (by simp)
  · exact h4.cell hp hne

/-- THE LAW: some operations are taken first; then one byte is laid, appended, and the slice put back. -/
theorem wp_take_append {id : Nat} {Q : Exit → Act → World → Prop} {a : Act} {l : List Oper} (n : Nat) (s x : Operand) {t : TypeId} {d1 d2 d3 : Tmp} {build app asg : Oper}
    (hlen : l.length = 3 + n) (hm : P.follows .mixedOrders = true) (hsel : Region.noSelect l.toArray = true) (hB : lexTakeB l.toArray n 0 (Array.replicate l.toArray.size false) = true)
    (hQ : ∀ c a v d w, Q (.panic c) (a.put d v) w → Q (.panic c) a w)
    (hb : l[n]? = some build) (ha : l[n + 1]? = some app) (hs : l[n + 2]? = some asg) (gb : build.guard = none) (ga : app.guard = none) (gs : asg.guard = none)
    (ob : build.op = .buildSlice t 1 #[(0, x)]) (oa : app.op = .call { callee := .builtin .append, args := #[s, .tmp d1], argTypes := #[t, t] }) (os : asg.op = .assign (.tmp d2))
    (db : build.dst = some d1) (da : app.dst = some d2) (ds : asg.dst = some d3)
    (r0 : Region.ready .any l.toArray (takenB n 0 (Array.replicate l.toArray.size false)) = [n])
    (r1 : Region.ready .any l.toArray ((takenB n 0 (Array.replicate l.toArray.size false)).setIfInBounds n true) = [n + 1])
    (r2 : Region.ready .any l.toArray (((takenB n 0 (Array.replicate l.toArray.size false)).setIfInBounds n true).setIfInBounds (n + 1) true) = [n + 2])
    (r3 : Region.ready .any l.toArray ((((takenB n 0 (Array.replicate l.toArray.size false)).setIfInBounds n true).setIfInBounds (n + 1) true).setIfInBounds (n + 2) true) = [])
    {B : Nat} {i : TypeInfo} {z : Value} (ht : P.underlying t = some (.slice 5)) (hi : P.info? 5 = some i) (hz : i.zero = some z)
    (hsize : i.size = 1) (hby : i.bytes = 1) (hzs : z.cells.size = 1)
    (v : Value) (l0 : List Nat) (hown : OwB w B v l0) (hlm : l0.length + 1 ≤ 140737488355328) (hbase : B ≤ w.heap.size) (y : Nat) (hy : y < 256)
    (hbuild : ∀ (a : Act) (w : World), a.eval x = .int .u8 (y : Int) → (execOp a.eval build).run P w = .ok (.value (.slice (some ⟨w.heap.size, 0, none⟩) 1 1)) (w.alloc (.cells #[.int .u8 (y : Int)] 5)))
    (h : takesB P l.toArray (KeepA w v l0.length) (fun a' => a'.eval x = .int .u8 (y : Int) ∧ (a'.put (some d1) (.slice (some ⟨w.heap.size, 0, none⟩) 1 1)).eval s = v ∧ (a'.put (some d1) (.slice (some ⟨w.heap.size, 0, none⟩) 1 1)).eval (.tmp d1) = .slice (some ⟨w.heap.size, 0, none⟩) 1 1 ∧
      ∀ v' w', OwB w' B v' (l0 ++ [y]) → Below B w w' → (w.alloc (.cells #[.int .u8 (y : Int)] 5)).grownBy w' v.ownBlock → (v'.ownBlock = v.ownBlock ∨ v'.ownBlock = some (w.heap.size + 1)) →
        (((a'.put (some d1) (.slice (some ⟨w.heap.size, 0, none⟩) 1 1)).put (some d2) v').eval (.tmp d2) = v' ∧ Q .normal (((a'.put (some d1) (.slice (some ⟨w.heap.size, 0, none⟩) 1 1)).put (some d2) v').put (some d3) v') w')) (l.take n) a) : (Code.region id l.toArray true).wp P Q a w := by
  refine wp_takes n 3 (KeepA w v l0.length) hlen hm (fun p u hp _ => hp) hsel hB hQ ?_
  have mono : ∀ (ls : List Oper) (a : Act) {L L' : Act → Prop}, (∀ a, L a → L' a) → takesB P l.toArray (KeepA w v l0.length) L ls a → takesB P l.toArray (KeepA w v l0.length) L' ls a := by
    intro ls
    induction ls with
    | nil => intro a L L' hL h; exact hL _ h
    | cons o r ih => intro a L L' hL ⟨u, hu, h⟩; exact ⟨u, hu, ih _ hL h⟩
  refine mono _ _ (fun a' ⟨hx, hsv, ht1, hk⟩ => ?_) h
  refine wpAnyH_ready r0 (by simp) (AllReadyH.cons (o := build) (by simpa using hb) (fun K hK => ?_) AllReadyH.nil)
  rw [if_pos (by simp [Region.wanted, gb])]
  unfold Oper.wp
  have hbb := hbuild a' w.drew hx
  rw [show w.drew.heap.size = w.heap.size from rfl] at hbb
  rw [hbb]
  simp only [Oper.upon, db]
  refine hK.out _ _ (KeepA.alloc (w' := w.drew) (fun p u hp _ => hp) _) (fun _ => ?_)
  clear hK K
  refine wpAnyH_ready r1 (by simp) (AllReadyH.cons (o := app) (by simpa using ha) (fun K hK => ?_) AllReadyH.nil)
  rw [if_pos (by simp [Region.wanted, ga])]
  have hrow : IsB (w.drew.alloc (.cells #[.int .u8 (y : Int)] 5)) (some ⟨w.heap.size, 0, none⟩) 1 1 [y] := isB_one w.drew y hy
  obtain ⟨v', w', hrun, o1, o2, o3, o4, o5⟩ := run_appC (P := P) (w.drew.alloc (.cells #[.int .u8 (y : Int)] 5)) (ty := app.type) ht hi hz hsize hby hzs ((hown.drew).alloc _) hrow hlm (Nat.le_trans hbase (Nat.le_of_lt (by simp)))
  unfold Oper.wp execOp
  simp only [oa, resolve, invoke, builtin, Sem.run_bind, Sem.run_pure, Result.andThen_ok, List.map_toArray, List.map_cons, List.map_nil, hsv, ht1, hrun, da, Oper.upon]
  refine hK.out _ _ (fun p u hp hq => o5 p u (by
    have : (w.drew.alloc (.cells #[.int .u8 (y : Int)] 5)).cell? p = w.cell? p := World.cell?_alloc_some w.drew p _ (by show (w.cell? p).isSome = true; rw [hp]; rfl)
    rw [this]; exact hp) hq) (fun _ => ?_)
  clear hK K
  refine wpAnyH_ready r2 (by simp) (AllReadyH.cons (o := asg) (by simpa using hs) (fun K hK => ?_) AllReadyH.nil)
  rw [if_pos (by simp [Region.wanted, gs])]
  obtain ⟨k1, k2⟩ := hk v' w' o1 (((Below.refl B w).drew.alloc hbase _).trans o2) (by exact ⟨o3.os, o3.tape, o3.output, o3.size, o3.block⟩) (by simpa using o4)
  have hasg : (execOp ((a'.put (some d1) (.slice (some ⟨w.heap.size, 0, none⟩) 1 1)).put (some d2) v').eval asg).run P w' = .ok (.value v') w' := by
    unfold execOp
    simp only [os, k1, Sem.run_pure]
  unfold Oper.wp
  rw [hasg]
  simp only [Oper.upon, ds]
  refine hK.out _ _ (fun p u hp hq => o5 p u (by
    have : (w.drew.alloc (.cells #[.int .u8 (y : Int)] 5)).cell? p = w.cell? p := World.cell?_alloc_some w.drew p _ (by show (w.cell? p).isSome = true; rw [hp]; rfl)
    rw [this]; exact hp) hq) (fun _ => ?_)
  exact wpAnyH_done r3 k2 _
end
end Go.Proofs.Ytpofndciepoooaa
