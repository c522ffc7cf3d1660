/-
  .. and of some bytes at once.
-/
import Derived.Test.YtpofndciepoooaaApp
namespace Go.Proofs.Ytpofndciepoooaa
open Go.RowKit
set_option linter.unusedVariables false
section
variable {P : Program} (w : World)
/-- THE LAW: some operations are taken first; then some bytes are laid, appended, and the slice put back. -/
theorem wp_take_appendL {id : Nat} {Q : Exit → Act → World → Prop} {a : Act} {l : List Oper} (n : Nat) (s : Operand) {t : TypeId} {d1 d2 d3 : Tmp} {build app asg : Oper}
    (hlen : l.length = 3 + n) (hm : P.follows .mixedOrders = true) (hsel : Region.noSelect l.toArray = true) (hB : lexTakeB l.toArray n 0 (Array.replicate l.toArray.size false) = true)
    (hQ : ∀ c a v d w, Q (.panic c) (a.put d v) w → Q (.panic c) a w)
    (hb : l[n]? = some build) (ha : l[n + 1]? = some app) (hs : l[n + 2]? = some asg) (gb : build.guard = none) (ga : app.guard = none) (gs : asg.guard = none)
    (oa : app.op = .call { callee := .builtin .append, args := #[s, .tmp d1], argTypes := #[t, t] }) (os : asg.op = .assign (.tmp d2))
    (db : build.dst = some d1) (da : app.dst = some d2) (ds : asg.dst = some d3)
    (r0 : Region.ready .any l.toArray (takenB n 0 (Array.replicate l.toArray.size false)) = [n])
    (r1 : Region.ready .any l.toArray ((takenB n 0 (Array.replicate l.toArray.size false)).setIfInBounds n true) = [n + 1])
    (r2 : Region.ready .any l.toArray (((takenB n 0 (Array.replicate l.toArray.size false)).setIfInBounds n true).setIfInBounds (n + 1) true) = [n + 2])
    (r3 : Region.ready .any l.toArray ((((takenB n 0 (Array.replicate l.toArray.size false)).setIfInBounds n true).setIfInBounds (n + 1) true).setIfInBounds (n + 2) true) = [])
    {B : Nat} {i : TypeInfo} {z : Value} (ht : P.underlying t = some (.slice 5)) (hi : P.info? 5 = some i) (hz : i.zero = some z)
    (hsize : i.size = 1) (hby : i.bytes = 1) (hzs : z.cells.size = 1)
    (v : Value) (l0 : List Nat) (hown : OwB w B v l0) (ys : List Nat) (hys : Byt ys) (hlm : l0.length + ys.length ≤ 140737488355328) (hbase : B ≤ w.heap.size) (Pre : Act → Prop)
    (hbuild : ∀ (a : Act) (w : World), Pre a → (execOp a.eval build).run P w = .ok (.value (.slice (some ⟨w.heap.size, 0, none⟩) ys.length ys.length)) (w.alloc (.cells (bts ys) 5)))
    (h : takesB P l.toArray (KeepA w v l0.length) (fun a' => Pre a' ∧ (a'.put (some d1) (.slice (some ⟨w.heap.size, 0, none⟩) ys.length ys.length)).eval s = v ∧ (a'.put (some d1) (.slice (some ⟨w.heap.size, 0, none⟩) ys.length ys.length)).eval (.tmp d1) = .slice (some ⟨w.heap.size, 0, none⟩) ys.length ys.length ∧
      ∀ v' w', OwB w' B v' (l0 ++ ys) → Below B w w' → (w.alloc (.cells (bts ys) 5)).grownBy w' v.ownBlock → (v'.ownBlock = v.ownBlock ∨ v'.ownBlock = some (w.heap.size + 1)) →
        (((a'.put (some d1) (.slice (some ⟨w.heap.size, 0, none⟩) ys.length ys.length)).put (some d2) v').eval (.tmp d2) = v' ∧ Q .normal (((a'.put (some d1) (.slice (some ⟨w.heap.size, 0, none⟩) ys.length ys.length)).put (some d2) v').put (some d3) v') w')) (l.take n) a) : (Code.region id l.toArray true).wp P Q a w := by
  refine wp_takes n 3 (KeepA w v l0.length) hlen hm (fun p u hp _ => hp) hsel hB hQ ?_
  have mono : ∀ (ls : List Oper) (a : Act) {L L' : Act → Prop}, (∀ a, L a → L' a) → takesB P l.toArray (KeepA w v l0.length) L ls a → takesB P l.toArray (KeepA w v l0.length) L' ls a := by
    intro ls
    induction ls with
    | nil => intro a L L' hL h; exact hL _ h
    | cons o r ih => intro a L L' hL ⟨u, hu, h⟩; exact ⟨u, hu, ih _ hL h⟩
  refine mono _ _ (fun a' ⟨hx, hsv, ht1, hk⟩ => ?_) h
  refine wpAnyH_ready r0 (by simp) (AllReadyH.cons (o := build) (by simpa using hb) (fun K hK => ?_) AllReadyH.nil)
  rw [if_pos (by simp [Region.wanted, gb])]
  unfold Oper.wp
  have hbb := hbuild a' w.drew hx
  rw [show w.drew.heap.size = w.heap.size from rfl] at hbb
  rw [hbb]
  simp only [Oper.upon, db]
  refine hK.out _ _ (KeepA.alloc (w' := w.drew) (fun p u hp _ => hp) _) (fun _ => ?_)
  clear hK K
  refine wpAnyH_ready r1 (by simp) (AllReadyH.cons (o := app) (by simpa using ha) (fun K hK => ?_) AllReadyH.nil)
  rw [if_pos (by simp [Region.wanted, ga])]
  have hrow : IsB (w.drew.alloc (.cells (bts ys) 5)) (some ⟨w.heap.size, 0, none⟩) ys.length ys.length ys := by
    have := (Bk.new w.drew 5 ys).isB hys ys.length ys.length (Nat.le_refl _) (Nat.le_refl _) (by omega)
    rw [List.take_length] at this
    exact this
  obtain ⟨v', w', hrun, o1, o2, o3, o4, o5⟩ := run_appC (P := P) (w.drew.alloc (.cells (bts ys) 5)) (ty := app.type) ht hi hz hsize hby hzs ((hown.drew).alloc _) hrow hlm (Nat.le_trans hbase (Nat.le_of_lt (by simp)))
  unfold Oper.wp execOp
  simp only [oa, resolve, invoke, builtin, Sem.run_bind, Sem.run_pure, Result.andThen_ok, List.map_toArray, List.map_cons, List.map_nil, hsv, ht1, hrun, da, Oper.upon]
  refine hK.out _ _ (fun p u hp hq => o5 p u (by
    have : (w.drew.alloc (.cells (bts ys) 5)).cell? p = w.cell? p := World.cell?_alloc_some w.drew p _ (by show (w.cell? p).isSome = true; rw [hp]; rfl)
    rw [this]; exact hp) hq) (fun _ => ?_)
  clear hK K
  refine wpAnyH_ready r2 (by simp) (AllReadyH.cons (o := asg) (by simpa using hs) (fun K hK => ?_) AllReadyH.nil)
  rw [if_pos (by simp [Region.wanted, gs])]
  obtain ⟨k1, k2⟩ := hk v' w' o1 (((Below.refl B w).drew.alloc hbase _).trans o2) (by exact ⟨o3.os, o3.tape, o3.output, o3.size, o3.block⟩) (by simpa using o4)
  have hasg : (execOp ((a'.put (some d1) (.slice (some ⟨w.heap.size, 0, none⟩) ys.length ys.length)).put (some d2) v').eval asg).run P w' = .ok (.value v') w' := by
    unfold execOp
    simp only [os, k1, Sem.run_pure]
  unfold Oper.wp
  rw [hasg]
  simp only [Oper.upon, ds]
  refine hK.out _ _ (fun p u hp hq => o5 p u (by
    have : (w.drew.alloc (.cells (bts ys) 5)).cell? p = w.cell? p := World.cell?_alloc_some w.drew p _ (by show (w.cell? p).isSome = true; rw [hp]; rfl)
    rw [this]; exact hp) hq) (fun _ => ?_)
  exact wpAnyH_done r3 k2 _
end
end Go.Proofs.Ytpofndciepoooaa
