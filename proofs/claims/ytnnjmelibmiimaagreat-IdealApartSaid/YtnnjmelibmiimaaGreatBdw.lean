/-
  IDEAL: what a call answers and leaves, plainly; Do does so.
-/
import Derived.Test.YtnnjmelibmiimaaGreatBdp
import Derived.Test.YtnnjmelibmiimaaGreatBdr
import Derived.Test.YtnnjmelibmiimaaGreatBds
import Derived.Test.YtnnjmelibmiimaaGreatBdt
import Derived.Test.YtnnjmelibmiimaaGreatBdv
import Derived.Test.YtnnjmelibmiimaaGreatBdb
import Derived.ChangeSame
import Derived.ChangeSlices
import Derived.Test.YtnnjmelibmiimaaGreatBda
import Derived.Deep.Slices
import Derived.OpenShut
namespace Go.Proofs.YtnnjmelibmiimaaGreat
open Go.RowKit
set_option linter.unusedVariables false
set_option linter.unusedSimpArgs false

/-- which tenant, plainly -/
def fndT (T : List TnP) (n : Nat) : Option TnP := T.find? fun t => decide (t.n = n)
theorem fndT_of : ∀ {T : List TnP} {t : TnP}, (T.map (·.n)).Nodup → t ∈ T → fndT T t.n = some t
  | p :: r, t, hn, hx => by
    rw [List.map_cons, List.nodup_cons] at hn
    unfold fndT
    rcases List.mem_cons.1 hx with rfl | h'
    · simp
    · have hne : p.n ≠ t.n := fun e1 => hn.1 (by rw [e1]; exact List.mem_map.2 ⟨_, h', rfl⟩)
      rw [List.find?_cons_of_neg (by simpa using hne)]
      exact fndT_of hn.2 h'
theorem fndT_mem {T : List TnP} {n : Nat} {t : TnP} (h : fndT T n = some t) : t ∈ T ∧ t.n = n := ⟨List.mem_of_find?_eq_some h, by simpa using List.find?_some h⟩
/-- what the calls of one tenant do -/
def turP (t : TnP) (_ : CallP) : AnsP × TnP := match t.tu with | true => (errA 263, t) | false => (errA 0, setTu t true)
def stpP (t : TnP) (c : CallP) : AnsP × TnP := match decide (c.n < 1), decide ((100 : Int) < c.n), t.tu with | true, _, _ => (errA 2, t) | false, true, _ => (errA 2, t) | false, false, false => (errA 264, t) | false, false, true => (errA 0, t)
def finP (t : TnP) (_ : CallP) : AnsP × TnP := match t.tu, decide (liveC t.sn = []) with | false, _ => (errA 264, t) | true, false => (errA 263, t) | true, true => (errA 0, setTu t false)
def attP (t : TnP) (c : CallP) : AnsP × TnP := match decide (c.sec.l = t.sec), decide (64 ≤ (aliveH t.A).length) with | false, _ => (errA 260, t) | true, true => (errA 9, attT t) | true, false => (hdA (c.ten * 4294967296 + (t.A.length + 1)), attT t)
def givP (t : TnP) (c : CallP) : AnsP × TnP := match (giveH t.A (c.hd % 4294967296) c.rt).1 with | (g, 0) => (hdA (c.hd / 4294967296 * 4294967296 + g), setA t (giveH t.A (c.hd % 4294967296) c.rt).2) | (_, er + 1) => (errA ((er + 1 : Nat) : Int), setA t (giveH t.A (c.hd % 4294967296) c.rt).2)
def revP (t : TnP) (c : CallP) : AnsP × TnP := match decide (c.oth / 4294967296 = c.hd / 4294967296) with | false => (errA 7, t) | true => (errA ((revokeH t.A (c.hd % 4294967296) (c.oth % 4294967296)).1 : Int), setA t (revokeH t.A (c.hd % 4294967296) (c.oth % 4294967296)).2)
def batP (t : TnP) (c : CallP) : AnsP × TnP := match decide (100 < c.oN), c.ops.all opOk with | true, _ => (errA 2, t) | false, false => (errA 2, t) | false, true => (batA t c.ops, batQ t c.ops)
def getP (t : TnP) (c : CallP) : AnsP × TnP := match decide (c.key.n = 0), decide (32 < c.key.n), seenP t c.sn with
  | true, _, _ => (errA 2, t)
  | false, true, _ => (errA 2, t)
  | false, false, none => (errA 262, t)
  | false, false, some S => match getK (k8 c.key.l) S with | none => (errA 7, t) | some u => (valA u, t)
def scnP (t : TnP) (c : CallP) : AnsP × TnP := match decide (c.n < 0), decide ((100 : Int) < c.n), seenP t c.sn with
  | true, _, _ => (errA 2, t)
  | false, true, _ => (errA 2, t)
  | false, false, none => (errA 262, t)
  | false, false, some S => (prsA (prsK S (scanK c S)), t)
def snpP (t : TnP) (_ : CallP) : AnsP × TnP := (snapA t, snapQ t)
def relP (t : TnP) (c : CallP) : AnsP × TnP := match snP t c.sn with | none => (errA 262, t) | some _ => (errA 0, setSn t (relL t.sn c.sn))
def useP (t : TnP) (_ : CallP) : AnsP × TnP := (cntA (chg t.now + sumS (liveC t.sn)), t)
/-- a call by a tenant's number; by a handle that must have a right -/
def tenC1 (T : List TnP) (c : CallP) (f : TnP → CallP → AnsP × TnP) : AnsP × List TnP := match fndT T c.ten with | none => (errA 7, T) | some t => ((f t c).1, updT c.ten (f t c).2 T)
def tenH1 (T : List TnP) (c : CallP) (nd : Nat) (f : TnP → CallP → AnsP × TnP) : AnsP × List TnP := match fndT T (c.hd / 4294967296) with
  | none => (errA 7, T)
  | some t => match checkH t.A (c.hd % 4294967296) nd with | 0 => ((f t c).1, updT (c.hd / 4294967296) (f t c).2 T) | er + 1 => (errA ((er + 1 : Nat) : Int), T)
def creP (blocks : Nat) (T : List TnP) (c : CallP) : AnsP × List TnP :=
  match ((c.ten : Int) == 0), ((c.sec.n : Int) != 16), decide (c.quota < 1), decide ((1000 : Int) < c.quota) with
  | true, _, _, _ => (errA 2, T)
  | false, true, _, _ => (errA 2, T)
  | false, false, true, _ => (errA 2, T)
  | false, false, false, true => (errA 2, T)
  | false, false, false, false => match fndT T c.ten with
    | some _ => (errA 8, T)
    | none => (bif fitsQ blocks (c.quota :: T.map fun t => (t.q : Int)) then errA 0 else errA 9, bif fitsQ blocks (c.quota :: T.map fun t => (t.q : Int)) then T ++ [newT c] else T)
def remP (T : List TnP) (c : CallP) : AnsP × List TnP := match fndT T c.ten with | none => (errA 7, T) | some _ => (errA 0, T.filter fun t => !decide (t.n = c.ten))
def stepP (blocks : Nat) (T : List TnP) (c : CallP) : AnsP × List TnP :=
  if c.kind = 1 then creP blocks T c else if c.kind = 2 then remP T c else if c.kind = 3 then tenC1 T c turP else if c.kind = 4 then tenC1 T c stpP else if c.kind = 5 then tenC1 T c finP
  else if c.kind = 6 then (errA 0, T) else if c.kind = 7 then (lstA (U32.srt (T.map (·.n))), T) else if c.kind = 8 then tenC1 T c attP else if c.kind = 9 then tenH1 T c 0 givP else if c.kind = 10 then tenH1 T c 0 revP
  else if c.kind = 11 then tenH1 T c 2 batP else if c.kind = 12 then tenH1 T c 1 getP else if c.kind = 13 then tenH1 T c 1 scnP else if c.kind = 14 then tenH1 T c 4 snpP else if c.kind = 15 then tenH1 T c 4 relP
  else if c.kind = 16 then tenH1 T c 1 useP else (errA 2, T)
/-- what the number of calls bounds -/
structure LimK (k : Nat) (t : TnP) : Prop where
  now : t.now.length ≤ 100 * k
  sn : t.sn.length ≤ k
  sns : ∀ p ∈ t.sn, p.1.length ≤ 100 * k
  A : t.A.length ≤ k
theorem LimK.lim {k : Nat} {t : TnP} (h : LimK k t) (hk : k ≤ 800) : LimT t := ⟨by have := h.now; omega, fun p hp => by have := h.sns p hp; omega, by have := h.sn; omega⟩
/-- a call in memory -/
structure CallP.B (w : World) (c : CallP) : Prop where
  ok : c.Ok
  sec : IsB w c.sec.A c.sec.n c.sec.c c.sec.l
  key : IsB w c.key.A c.key.n c.key.c c.key.l
  frm : IsB w c.frm.A c.frm.n c.frm.c c.frm.l
  upto : IsB w c.upto.A c.upto.n c.upto.c c.upto.l
  ops : OpsB w c.oA c.oN c.oC c.ops
theorem CallP.B.ab {w w' : World} {c : CallP} (h : c.B w) (hb : Below w.heap.size w w') : c.B w' := ⟨h.ok, h.sec.ab hb, h.key.ab hb, h.frm.ab hb, h.upto.ab hb, h.ops.ab hb⟩
section
variable {w : World} {O : Tg} {s blocks m : Nat} {T : List TnP} {bs : List (Nat × TnP)} {c : CallP}
theorem IdM.nodupT (h : IdM w O s blocks T m bs) : (T.map (·.n)).Nodup := by
  have h1 := (h.prm.map (·.n)).nodup_iff.1 (by rw [List.map_map]; exact h.nodup)
  exact h1
theorem fnd_T (h : IdM w O s blocks T m bs) (n : Nat) : fndT T n = (fnd bs n).map (·.2) := by
  cases hf : fnd bs n with
  | some x =>
    obtain ⟨h1, h2⟩ := fnd_mem hf
    have : x.2 ∈ T := h.prm.mem_iff.1 (List.mem_map.2 ⟨x, h1, rfl⟩)
    rw [← h2]
    exact fndT_of h.nodupT this
  | none =>
    cases hg : fndT T n with
    | none => rfl
    | some t =>
      obtain ⟨h1, h2⟩ := fndT_mem hg
      obtain ⟨x, hx, hxt⟩ := List.mem_map.1 (h.prm.mem_iff.2 h1)
      have := fnd_of h.nodup hx
      rw [hxt, h2] at this
      rw [hf] at this
      cases this
theorem lim_of (h : IdM w O s blocks T m bs) (hl : ∀ t ∈ T, LimK 800 t) {n : Nat} {x : Nat × TnP} (hf : fnd bs n = some x) : LimK 800 x.2 := hl _ (h.prm.mem_iff.1 (List.mem_map.2 ⟨x, (fnd_mem hf).1, rfl⟩))
theorem giveH_lt {A : HL} {hh rt g : Nat} (he : (giveH A hh rt).1 = (g, 0)) (hA : A.length < 1000000) : g < 4294967296 := by
  unfold giveH at he
  cases ha : atH A hh with
  | none => rw [ha] at he; simp at he
  | some y =>
    rw [ha] at he
    simp only at he
    cases hb : (noGive y.r || overR rt y.r) with
    | true => rw [hb] at he; simp at he
    | false =>
      rw [hb] at he
      simp only [cond_false] at he
      unfold putH at he
      split at he
      · simp at he
      · simp at he; omega
theorem seenP_len {t : TnP} {sn : Nat} {S : Bk2} (hk : LimK 800 t) (hs : seenP t sn = some S) : S.length ≤ 100000 := by
  unfold seenP at hs
  split at hs
  · injection hs with hs; subst hs; have := hk.now; omega
  · split at hs
    · next S' h1 =>
      injection hs with hs
      subst hs
      have := hk.sns _ (List.mem_of_getElem? h1)
      simp only at this
      omega
    · cases hs
theorem P_turn (h : IdM w O s blocks T m bs) (hb : c.B w) (hl : ∀ t ∈ T, LimK 800 t) : Calls Tryz.prog 41 #[.pointer (some ⟨s, 0, none⟩), .agg c.cs] w (DoR s blocks w O (tenC1 T c turP).1 (tenC1 T c turP).2) := by
  have hc := hb.ok
  have hT := fnd_T h c.ten
  unfold tenC1
  rw [hT]
  cases hf : fnd bs c.ten with
  | none => exact id_turn_none h hc hf
  | some x =>
    have hu := updT_self h hf
    have hk := lim_of h hl hf
    simp only [Option.map_some]
    unfold turP
    cases ht : x.2.tu with
    | true => simp only; rw [hu]; exact id_turn_busy x h hc hf ht
    | false => exact id_turn_ok x h hc hf ht
theorem P_step (h : IdM w O s blocks T m bs) (hb : c.B w) (hl : ∀ t ∈ T, LimK 800 t) : Calls Tryz.prog 42 #[.pointer (some ⟨s, 0, none⟩), .agg c.cs] w (DoR s blocks w O (tenC1 T c stpP).1 (tenC1 T c stpP).2) := by
  have hc := hb.ok
  have hT := fnd_T h c.ten
  unfold tenC1
  rw [hT]
  cases hf : fnd bs c.ten with
  | none => exact id_step_none h hc hf
  | some x =>
    have hu := updT_self h hf
    have hk := lim_of h hl hf
    simp only [Option.map_some]
    unfold stpP
    cases n0 : decide (c.n < 1) with
    | true => simp only; rw [hu]; exact id_step_low x h hc hf n0
    | false =>
      cases n1 : decide ((100 : Int) < c.n) with
      | true => simp only; rw [hu]; exact id_step_high x h hc hf n0 n1
      | false =>
        cases ht : x.2.tu with
        | true => simp only; rw [hu]; exact id_step_ok x h hc hf n0 n1 ht
        | false => simp only; rw [hu]; exact id_step_state x h hc hf n0 n1 ht
theorem P_finish (h : IdM w O s blocks T m bs) (hb : c.B w) (hl : ∀ t ∈ T, LimK 800 t) : Calls Tryz.prog 43 #[.pointer (some ⟨s, 0, none⟩), .agg c.cs] w (DoR s blocks w O (tenC1 T c finP).1 (tenC1 T c finP).2) := by
  have hc := hb.ok
  have hT := fnd_T h c.ten
  unfold tenC1
  rw [hT]
  cases hf : fnd bs c.ten with
  | none => exact id_finish_none h hc hf
  | some x =>
    have hu := updT_self h hf
    have hk := lim_of h hl hf
    simp only [Option.map_some]
    unfold finP
    cases ht : x.2.tu with
    | false => simp only; rw [hu]; exact id_finish_state x h hc hf ht
    | true =>
      by_cases hv : liveC x.2.sn = []
      · rw [decide_eq_true hv]; exact id_finish_ok x h hc hf ht hv
      · rw [decide_eq_false hv]; simp only; rw [hu]; exact id_finish_busy x h hc hf ht hv
theorem P_attach (h : IdM w O s blocks T m bs) (hb : c.B w) (hl : ∀ t ∈ T, LimK 800 t) : Calls Tryz.prog 46 #[.pointer (some ⟨s, 0, none⟩), .agg c.cs] w (DoR s blocks w O (tenC1 T c attP).1 (tenC1 T c attP).2) := by
  have hc := hb.ok
  have hT := fnd_T h c.ten
  unfold tenC1
  rw [hT]
  cases hf : fnd bs c.ten with
  | none => exact attach_none h hc hf
  | some x =>
    have hu := updT_self h hf
    have hk := lim_of h hl hf
    simp only [Option.map_some]
    unfold attP
    have hA : x.2.A.length < 1000000 := by have := hk.A; omega
    by_cases he : c.sec.l = x.2.sec
    · rw [decide_eq_true he]
      by_cases hf2 : 64 ≤ (aliveH x.2.A).length
      · rw [decide_eq_true hf2]
        exact attach_full x h hc hf hb.sec he hA (by unfold putH; rw [if_pos hf2])
      · rw [decide_eq_false hf2]
        exact attach_yes x h hc hf hb.sec he hA (by unfold putH; rw [if_neg hf2])
    · rw [decide_eq_false he]
      simp only
      rw [hu]
      exact attach_sec x h hc hf hb.sec he
theorem P_give (h : IdM w O s blocks T m bs) (hb : c.B w) (hl : ∀ t ∈ T, LimK 800 t) : Calls Tryz.prog 47 #[.pointer (some ⟨s, 0, none⟩), .agg c.cs] w (DoR s blocks w O (tenH1 T c 0 givP).1 (tenH1 T c 0 givP).2) := by
  have hc := hb.ok
  have hT := fnd_T h (c.hd / 4294967296)
  unfold tenH1
  rw [hT]
  cases hf : fnd bs (c.hd / 4294967296) with
  | none => exact id_give_none h hc hf
  | some x =>
    have hu := updT_self h hf
    have hk := lim_of h hl hf
    simp only [Option.map_some]
    cases hck : checkH x.2.A (c.hd % 4294967296) 0 with
    | succ er => exact id_give_deny x h hc hf (er + 1) hck (Nat.succ_pos _)
    | zero =>
      simp only
      have hA : x.2.A.length < 1000000 := by have := hk.A; omega
      obtain ⟨g, er, he⟩ : ∃ g er, (giveH x.2.A (c.hd % 4294967296) c.rt).1 = (g, er) := ⟨_, _, rfl⟩
      unfold givP
      rw [he]
      cases er with
      | zero => exact id_give_yes x h hc hf hck _ _ rfl rfl hA g he (giveH_lt he hA)
      | succ er => exact id_give_no x h hc hf hck _ _ rfl rfl hA g (er + 1) he (Nat.succ_pos _)
theorem P_revoke (h : IdM w O s blocks T m bs) (hb : c.B w) (hl : ∀ t ∈ T, LimK 800 t) : Calls Tryz.prog 48 #[.pointer (some ⟨s, 0, none⟩), .agg c.cs] w (DoR s blocks w O (tenH1 T c 0 revP).1 (tenH1 T c 0 revP).2) := by
  have hc := hb.ok
  have hT := fnd_T h (c.hd / 4294967296)
  unfold tenH1
  rw [hT]
  cases hf : fnd bs (c.hd / 4294967296) with
  | none => exact id_revoke_none h hc hf
  | some x =>
    have hu := updT_self h hf
    have hk := lim_of h hl hf
    simp only [Option.map_some]
    cases hck : checkH x.2.A (c.hd % 4294967296) 0 with
    | succ er => exact id_revoke_deny x h hc hf (er + 1) hck (Nat.succ_pos _)
    | zero =>
      simp only
      have hA : x.2.A.length < 1000000 := by have := hk.A; omega
      unfold revP
      by_cases he : c.oth / 4294967296 = c.hd / 4294967296
      · rw [decide_eq_true he]
        exact id_revoke_any x h hc hf hck _ _ rfl rfl hA _ _ rfl rfl he
      · rw [decide_eq_false he]
        simp only
        rw [hu]
        exact id_revoke_far x h hc hf hck _ _ rfl rfl hA _ _ rfl rfl he
theorem P_batch (h : IdM w O s blocks T m bs) (hb : c.B w) (hl : ∀ t ∈ T, LimK 800 t) : Calls Tryz.prog 49 #[.pointer (some ⟨s, 0, none⟩), .agg c.cs] w (DoR s blocks w O (tenH1 T c 2 batP).1 (tenH1 T c 2 batP).2) := by
  have hc := hb.ok
  have hT := fnd_T h (c.hd / 4294967296)
  unfold tenH1
  rw [hT]
  cases hf : fnd bs (c.hd / 4294967296) with
  | none => exact id_batch_none h hc hf
  | some x =>
    have hu := updT_self h hf
    have hk := lim_of h hl hf
    simp only [Option.map_some]
    cases hck : checkH x.2.A (c.hd % 4294967296) 2 with
    | succ er => exact id_batch_deny x h hc hf (er + 1) hck (Nat.succ_pos _)
    | zero =>
      simp only
      unfold batP
      by_cases hn : 100 < c.oN
      · rw [decide_eq_true hn]; simp only; rw [hu]; exact id_batch_many x h hc hf hck hn
      · rw [decide_eq_false hn]
        cases ha : c.ops.all opOk with
        | false => simp only; rw [hu]; exact id_batch_bad x h hc hf hck (by omega) hb.ops ha
        | true => exact id_batch_ok x h hc hf hck (by omega) hb.ops ha (hk.lim (Nat.le_refl _))
theorem P_get (h : IdM w O s blocks T m bs) (hb : c.B w) (hl : ∀ t ∈ T, LimK 800 t) : Calls Tryz.prog 50 #[.pointer (some ⟨s, 0, none⟩), .agg c.cs] w (DoR s blocks w O (tenH1 T c 1 getP).1 (tenH1 T c 1 getP).2) := by
  have hc := hb.ok
  have hT := fnd_T h (c.hd / 4294967296)
  unfold tenH1
  rw [hT]
  cases hf : fnd bs (c.hd / 4294967296) with
  | none => exact id_get_none h hc hf
  | some x =>
    have hu := updT_self h hf
    have hk := lim_of h hl hf
    simp only [Option.map_some]
    cases hck : checkH x.2.A (c.hd % 4294967296) 1 with
    | succ er => exact id_get_deny x h hc hf (er + 1) hck (Nat.succ_pos _)
    | zero =>
      simp only
      unfold getP
      by_cases h0 : c.key.n = 0
      · rw [decide_eq_true h0]; simp only; rw [hu]; exact id_get_short x h hc hf hck h0
      · rw [decide_eq_false h0]
        by_cases h1 : 32 < c.key.n
        · rw [decide_eq_true h1]; simp only; rw [hu]; exact id_get_long x h hc hf hck h1
        · rw [decide_eq_false h1]
          cases hs : seenP x.2 c.sn with
          | none => simp only; rw [hu]; exact id_get_snap x h hc hf hck ⟨by omega, by omega⟩ hs
          | some S =>
            simp only
            cases hg : getK (k8 c.key.l) S with
            | none => simp only; rw [hu]; exact id_get_miss x h hc hf hck ⟨by omega, by omega⟩ hb.key S hs hg
            | some u => simp only; rw [hu]; exact id_get_hit x h hc hf hck ⟨by omega, by omega⟩ hb.key S hs u hg
theorem P_scan (h : IdM w O s blocks T m bs) (hb : c.B w) (hl : ∀ t ∈ T, LimK 800 t) : Calls Tryz.prog 51 #[.pointer (some ⟨s, 0, none⟩), .agg c.cs] w (DoR s blocks w O (tenH1 T c 1 scnP).1 (tenH1 T c 1 scnP).2) := by
  have hc := hb.ok
  have hT := fnd_T h (c.hd / 4294967296)
  unfold tenH1
  rw [hT]
  cases hf : fnd bs (c.hd / 4294967296) with
  | none => exact id_scan_none h hc hf
  | some x =>
    have hu := updT_self h hf
    have hk := lim_of h hl hf
    simp only [Option.map_some]
    cases hck : checkH x.2.A (c.hd % 4294967296) 1 with
    | succ er => exact id_scan_deny x h hc hf (er + 1) hck (Nat.succ_pos _)
    | zero =>
      simp only
      unfold scnP
      cases n0 : decide (c.n < 0) with
      | true => simp only; rw [hu]; exact id_scan_low x h hc hf hck n0
      | false =>
        cases n1 : decide ((100 : Int) < c.n) with
        | true => simp only; rw [hu]; exact id_scan_high x h hc hf hck n0 n1
        | false =>
          cases hs : seenP x.2 c.sn with
          | none => simp only; rw [hu]; exact id_scan_snap x h hc hf hck n0 n1 hs
          | some S => simp only; rw [hu]; exact id_scan_ok x h hc hf hck n0 n1 S hs (seenP_len hk hs) hb.frm hb.upto
theorem P_snap (h : IdM w O s blocks T m bs) (hb : c.B w) (hl : ∀ t ∈ T, LimK 800 t) : Calls Tryz.prog 52 #[.pointer (some ⟨s, 0, none⟩), .agg c.cs] w (DoR s blocks w O (tenH1 T c 4 snpP).1 (tenH1 T c 4 snpP).2) := by
  have hc := hb.ok
  have hT := fnd_T h (c.hd / 4294967296)
  unfold tenH1
  rw [hT]
  cases hf : fnd bs (c.hd / 4294967296) with
  | none => exact id_snap_none h hc hf
  | some x =>
    have hu := updT_self h hf
    have hk := lim_of h hl hf
    simp only [Option.map_some]
    cases hck : checkH x.2.A (c.hd % 4294967296) 4 with
    | succ er => exact id_snap_deny x h hc hf (er + 1) hck (Nat.succ_pos _)
    | zero =>
      simp only
      exact id_snap_any x h hc hf hck (hk.lim (Nat.le_refl _)) (by have := hk.sn; omega)
theorem P_release (h : IdM w O s blocks T m bs) (hb : c.B w) (hl : ∀ t ∈ T, LimK 800 t) : Calls Tryz.prog 53 #[.pointer (some ⟨s, 0, none⟩), .agg c.cs] w (DoR s blocks w O (tenH1 T c 4 relP).1 (tenH1 T c 4 relP).2) := by
  have hc := hb.ok
  have hT := fnd_T h (c.hd / 4294967296)
  unfold tenH1
  rw [hT]
  cases hf : fnd bs (c.hd / 4294967296) with
  | none => exact id_release_none h hc hf
  | some x =>
    have hu := updT_self h hf
    have hk := lim_of h hl hf
    simp only [Option.map_some]
    cases hck : checkH x.2.A (c.hd % 4294967296) 4 with
    | succ er => exact id_release_deny x h hc hf (er + 1) hck (Nat.succ_pos _)
    | zero =>
      simp only
      unfold relP
      cases hs : snP x.2 c.sn with
      | none => simp only; rw [hu]; exact id_release_snap x h hc hf hck hs
      | some S => exact id_release_ok x h hc hf hck S hs
theorem P_usage (h : IdM w O s blocks T m bs) (hb : c.B w) (hl : ∀ t ∈ T, LimK 800 t) : Calls Tryz.prog 54 #[.pointer (some ⟨s, 0, none⟩), .agg c.cs] w (DoR s blocks w O (tenH1 T c 1 useP).1 (tenH1 T c 1 useP).2) := by
  have hc := hb.ok
  have hT := fnd_T h (c.hd / 4294967296)
  unfold tenH1
  rw [hT]
  cases hf : fnd bs (c.hd / 4294967296) with
  | none => exact id_usage_none h hc hf
  | some x =>
    have hu := updT_self h hf
    have hk := lim_of h hl hf
    simp only [Option.map_some]
    cases hck : checkH x.2.A (c.hd % 4294967296) 1 with
    | succ er => exact id_usage_deny x h hc hf (er + 1) hck (Nat.succ_pos _)
    | zero =>
      simp only
      unfold useP
      simp only
      rw [hu]
      exact id_usage_any x h hc hf hck (hk.lim (Nat.le_refl _))
theorem P_create (h : IdM w O s blocks T m bs) (hb : c.B w) (hl : ∀ t ∈ T, LimK 800 t) (hln : T.length ≤ 100000) : Calls Tryz.prog 39 #[.pointer (some ⟨s, 0, none⟩), .agg c.cs] w (DoR s blocks w O (creP blocks T c).1 (creP blocks T c).2) := by
  have hc := hb.ok
  have hT := fnd_T h c.ten
  unfold creP
  cases t0 : ((c.ten : Int) == 0) with
  | true => exact id_create_bad0 h hc t0
  | false =>
    cases t1 : ((c.sec.n : Int) != 16) with
    | true => exact id_create_bad1 h hc t0 t1
    | false =>
      cases t2 : decide (c.quota < 1) with
      | true => exact id_create_bad2 h hc t0 t1 t2
      | false =>
        cases t3 : decide ((1000 : Int) < c.quota) with
        | true => exact id_create_bad3 h hc t0 t1 t2 t3
        | false =>
          simp only
          rw [hT]
          cases hf : fnd bs c.ten with
          | some x => exact id_create_twice x h hc hf t0 t1 t2 t3
          | none => exact id_create_some h hc hf hb.sec hln t0 t1 t2 t3 _ _ rfl rfl
theorem P_remove (h : IdM w O s blocks T m bs) (hb : c.B w) (hl : ∀ t ∈ T, LimK 800 t) : Calls Tryz.prog 40 #[.pointer (some ⟨s, 0, none⟩), .agg c.cs] w (DoR s blocks w O (remP T c).1 (remP T c).2) := by
  have hc := hb.ok
  have hT := fnd_T h c.ten
  unfold remP
  rw [hT]
  cases hf : fnd bs c.ten with
  | none => exact id_remove_none h hc hf
  | some x => exact id_remove_ok x h hc hf
set_option maxRecDepth 100000 in
set_option maxHeartbeats 4000000 in
theorem do_bad (h : IdM w O s blocks T m bs) (hk : ckOk c.kind) (hl : lookL c.kind howL = none) :
    Calls Tryz.prog 10 #[.pointer (some ⟨s, 0, none⟩), .agg c.cs] w (DoR s blocks w O (errA 2) T) := by
  have ha : Below w.heap.size w ((w.alloc (.cells #[.int .i64 c.kind, .int .u32 (c.ten : Int), .slice c.sec.A c.sec.n c.sec.c, .int .i64 c.quota, .int .i64 c.n, .int .u64 (c.hd : Int), .int .u64 (c.oth : Int), .int .u64 (c.sn : Int), .int .u8 (c.rt : Int), .slice c.oA c.oN c.oC, .slice c.key.A c.key.n c.key.c, .slice c.frm.A c.frm.n c.frm.c, .slice c.upto.A c.upto.n c.upto.c, .bool c.back] 36)).alloc (.cells #[.int .i64 0, .int .u64 0, .int .u64 0, .slice none 0 0, .slice none 0 0, .int .i64 0, .slice none 0 0] 40)) := ((Below.refl _ _).alloc (Nat.le_refl _) _).alloc (by simp) _
  have hcb : CbB ((w.alloc (.cells #[.int .i64 c.kind, .int .u32 (c.ten : Int), .slice c.sec.A c.sec.n c.sec.c, .int .i64 c.quota, .int .i64 c.n, .int .u64 (c.hd : Int), .int .u64 (c.oth : Int), .int .u64 (c.sn : Int), .int .u8 (c.rt : Int), .slice c.oA c.oN c.oC, .slice c.key.A c.key.n c.key.c, .slice c.frm.A c.frm.n c.frm.c, .slice c.upto.A c.upto.n c.upto.c, .bool c.back] 36)).alloc (.cells #[.int .i64 0, .int .u64 0, .int .u64 0, .slice none 0 0, .slice none 0 0, .int .i64 0, .slice none 0 0] 40)) w.heap.size 36 c.cs := (CbB.new w _ _).ab ((Below.refl _ _).alloc (Nat.le_refl _) _)
  have hqb : CbB ((w.alloc (.cells #[.int .i64 c.kind, .int .u32 (c.ten : Int), .slice c.sec.A c.sec.n c.sec.c, .int .i64 c.quota, .int .i64 c.n, .int .u64 (c.hd : Int), .int .u64 (c.oth : Int), .int .u64 (c.sn : Int), .int .u8 (c.rt : Int), .slice c.oA c.oN c.oC, .slice c.key.A c.key.n c.key.c, .slice c.frm.A c.frm.n c.frm.c, .slice c.upto.A c.upto.n c.upto.c, .bool c.back] 36)).alloc (.cells #[.int .i64 0, .int .u64 0, .int .u64 0, .slice none 0 0, .slice none 0 0, .int .i64 0, .slice none 0 0] 40)) (w.heap.size + 1) 40 (ansE 0) := CbB.newI (by simp)
  unfold CallP.cs at hcb ⊢
  go_enter Tryz.func10, Tryz.ntmps10
  go_upto_region 1 with (fail)
  obtain ⟨w0, hw0⟩ : ∃ w0, ((w.alloc (.cells #[.int .i64 c.kind, .int .u32 (c.ten : Int), .slice c.sec.A c.sec.n c.sec.c, .int .i64 c.quota, .int .i64 c.n, .int .u64 (c.hd : Int), .int .u64 (c.oth : Int), .int .u64 (c.sn : Int), .int .u8 (c.rt : Int), .slice c.oA c.oN c.oC, .slice c.key.A c.key.n c.key.c, .slice c.frm.A c.frm.n c.frm.c, .slice c.upto.A c.upto.n c.upto.c, .bool c.back] 36)).alloc (.cells #[.int .i64 0, .int .u64 0, .int .u64 0, .slice none 0 0, .slice none 0 0, .int .i64 0, .slice none 0 0] 40)) = w0 := ⟨_, rfl⟩
  rw [hw0] at ha hcb hqb ⊢
  clear hw0
  have HA := Lib.hid ha
  have HQ := Lib.hid hqb
  have M0 := h.stp (Stp.cut ha (fun _ => False)) fun _ h => h
  have HM := Lib.hid M0
  have c0 := hcb.cell (k := 0) rfl
  have HN := Lib.hid (none_no s m _ w0 M0.box)
  have HW := Lib.hid fun W => how_any c.kind hk W
  rw [hl] at HW
  have hq := fun W => eq_fn0 W
  have HF := Lib.hid fun W => fails_any 2 W
  clear h ha hqb hcb hk hl M0
  go_wp2_with fail
  refine HN.out.mono ?_
  rintro e w1 ⟨rfl, rfl⟩
  go_wp2_with fail
  refine (HW.out _).mono ?_
  rintro e w1 ⟨rfl, hb⟩
  have B9 := Lib.hid hb
  clear hb HW HN
  simp only [Option.getD_none]
  go_wp2_with fail
  refine (HF.out _).mono ?_
  rintro e w1 ⟨rfl, hb⟩
  have B1 : Hid (Below w0.heap.size w0 w1) := Lib.hid (below_tr B9.out hb B9.out.size)
  have Q1 := Lib.hid (HQ.out.ab B1.out)
  have M1 := Lib.hid (HM.out.stp (Stp.of B1.out (fun _ => False) fun _ _ => rfl) fun _ h => h)
  have S1 : Hid (Stp (fun τ => τ.1 = s) w O w1 (cutTg O w.heap.size)) := Lib.hid ((Stp.cut HA.out _).ab B1.out)
  clear hb HQ HM B1
  go_wp2_with (first
    | (with_reducible refine wpList_storeC (o := ⟨none, .store _ (.tmp 4) (.tmp 14), _, _, _, _⟩) ?_ 40 (.tmp 4) (.tmp 14) ?_ (w.heap.size + 1) ?_ (ansE 2) ?_ (cs := ansE 0) (t := 40) Q1.out (szAnsE _) ?_ (ansE_one _) ?_
       · rfl
       · rfl
       · rfl
       · rfl
       · rfl
       intro wz hwz
       have QZ : Hid (CbB wz (w.heap.size + 1) 40 (ansE 2)) := Lib.hid (by rw [hwz]; exact CbB.row Q1.out _)
       have FZ : Hid (Fr w1 wz (fun k => k = (w.heap.size + 1))) := Lib.hid (by rw [hwz]; exact fr_rowX _ _ _)
       clear hwz))
  refine bodyPost_ret (ans_results Tryz.results10 _ _ (w.heap.size + 1) (ansE 2) rfl QZ.out rfl) rfl ?_
  exact DoR.flat 2 0 0 0 ⟨m, bs, M1.out.stp (Stp.box FZ.out (cutTg_at (Nat.le_succ _))) fun i e => by have := M1.out.pos; injection e with e; omega⟩ (S1.out.fresh FZ.out (Nat.le_succ _))
theorem do_any (h : IdM w O s blocks T m bs) (hb : c.B w) (hl : ∀ t ∈ T, LimK 800 t) (hln : T.length ≤ 100000) :
    Calls Tryz.prog 10 #[.pointer (some ⟨s, 0, none⟩), .agg c.cs] w (DoR s blocks w O (stepP blocks T c).1 (stepP blocks T c).2) := by
  by_cases q1 : c.kind = 1
  · unfold stepP
    rw [if_pos q1]
    exact do_of 39 h hb.ok.kind (by rw [q1]; rfl) (enters_of Tryz.func39 (by kernel_rfl) rfl) _ _ fun W hW hi => P_create hi (hb.ab hW) hl hln
  by_cases q2 : c.kind = 2
  · unfold stepP
    rw [if_neg q1, if_pos q2]
    exact do_of 40 h hb.ok.kind (by rw [q2]; rfl) (enters_of Tryz.func40 (by kernel_rfl) rfl) _ _ fun W hW hi => P_remove hi (hb.ab hW) hl
  by_cases q3 : c.kind = 3
  · unfold stepP
    rw [if_neg q1, if_neg q2, if_pos q3]
    exact do_of 41 h hb.ok.kind (by rw [q3]; rfl) (enters_of Tryz.func41 (by kernel_rfl) rfl) _ _ fun W hW hi => P_turn hi (hb.ab hW) hl
  by_cases q4 : c.kind = 4
  · unfold stepP
    rw [if_neg q1, if_neg q2, if_neg q3, if_pos q4]
    exact do_of 42 h hb.ok.kind (by rw [q4]; rfl) (enters_of Tryz.func42 (by kernel_rfl) rfl) _ _ fun W hW hi => P_step hi (hb.ab hW) hl
  by_cases q5 : c.kind = 5
  · unfold stepP
    rw [if_neg q1, if_neg q2, if_neg q3, if_neg q4, if_pos q5]
    exact do_of 43 h hb.ok.kind (by rw [q5]; rfl) (enters_of Tryz.func43 (by kernel_rfl) rfl) _ _ fun W hW hi => P_finish hi (hb.ab hW) hl
  by_cases q6 : c.kind = 6
  · unfold stepP
    rw [if_neg q1, if_neg q2, if_neg q3, if_neg q4, if_neg q5, if_pos q6]
    exact do_of 44 h hb.ok.kind (by rw [q6]; rfl) (enters_of Tryz.func44 (by kernel_rfl) rfl) _ _ fun W hW hi => id_root hi
  by_cases q7 : c.kind = 7
  · unfold stepP
    rw [if_neg q1, if_neg q2, if_neg q3, if_neg q4, if_neg q5, if_neg q6, if_pos q7]
    exact do_of 45 h hb.ok.kind (by rw [q7]; rfl) (enters_of Tryz.func45 (by kernel_rfl) rfl) _ _ fun W hW hi => id_tenants hi hln
  by_cases q8 : c.kind = 8
  · unfold stepP
    rw [if_neg q1, if_neg q2, if_neg q3, if_neg q4, if_neg q5, if_neg q6, if_neg q7, if_pos q8]
    exact do_of 46 h hb.ok.kind (by rw [q8]; rfl) (enters_of Tryz.func46 (by kernel_rfl) rfl) _ _ fun W hW hi => P_attach hi (hb.ab hW) hl
  by_cases q9 : c.kind = 9
  · unfold stepP
    rw [if_neg q1, if_neg q2, if_neg q3, if_neg q4, if_neg q5, if_neg q6, if_neg q7, if_neg q8, if_pos q9]
    exact do_of 47 h hb.ok.kind (by rw [q9]; rfl) (enters_of Tryz.func47 (by kernel_rfl) rfl) _ _ fun W hW hi => P_give hi (hb.ab hW) hl
  by_cases q10 : c.kind = 10
  · unfold stepP
    rw [if_neg q1, if_neg q2, if_neg q3, if_neg q4, if_neg q5, if_neg q6, if_neg q7, if_neg q8, if_neg q9, if_pos q10]
    exact do_of 48 h hb.ok.kind (by rw [q10]; rfl) (enters_of Tryz.func48 (by kernel_rfl) rfl) _ _ fun W hW hi => P_revoke hi (hb.ab hW) hl
  by_cases q11 : c.kind = 11
  · unfold stepP
    rw [if_neg q1, if_neg q2, if_neg q3, if_neg q4, if_neg q5, if_neg q6, if_neg q7, if_neg q8, if_neg q9, if_neg q10, if_pos q11]
    exact do_of 49 h hb.ok.kind (by rw [q11]; rfl) (enters_of Tryz.func49 (by kernel_rfl) rfl) _ _ fun W hW hi => P_batch hi (hb.ab hW) hl
  by_cases q12 : c.kind = 12
  · unfold stepP
    rw [if_neg q1, if_neg q2, if_neg q3, if_neg q4, if_neg q5, if_neg q6, if_neg q7, if_neg q8, if_neg q9, if_neg q10, if_neg q11, if_pos q12]
    exact do_of 50 h hb.ok.kind (by rw [q12]; rfl) (enters_of Tryz.func50 (by kernel_rfl) rfl) _ _ fun W hW hi => P_get hi (hb.ab hW) hl
  by_cases q13 : c.kind = 13
  · unfold stepP
    rw [if_neg q1, if_neg q2, if_neg q3, if_neg q4, if_neg q5, if_neg q6, if_neg q7, if_neg q8, if_neg q9, if_neg q10, if_neg q11, if_neg q12, if_pos q13]
    exact do_of 51 h hb.ok.kind (by rw [q13]; rfl) (enters_of Tryz.func51 (by kernel_rfl) rfl) _ _ fun W hW hi => P_scan hi (hb.ab hW) hl
  by_cases q14 : c.kind = 14
  · unfold stepP
    rw [if_neg q1, if_neg q2, if_neg q3, if_neg q4, if_neg q5, if_neg q6, if_neg q7, if_neg q8, if_neg q9, if_neg q10, if_neg q11, if_neg q12, if_neg q13, if_pos q14]
    exact do_of 52 h hb.ok.kind (by rw [q14]; rfl) (enters_of Tryz.func52 (by kernel_rfl) rfl) _ _ fun W hW hi => P_snap hi (hb.ab hW) hl
  by_cases q15 : c.kind = 15
  · unfold stepP
    rw [if_neg q1, if_neg q2, if_neg q3, if_neg q4, if_neg q5, if_neg q6, if_neg q7, if_neg q8, if_neg q9, if_neg q10, if_neg q11, if_neg q12, if_neg q13, if_neg q14, if_pos q15]
    exact do_of 53 h hb.ok.kind (by rw [q15]; rfl) (enters_of Tryz.func53 (by kernel_rfl) rfl) _ _ fun W hW hi => P_release hi (hb.ab hW) hl
  by_cases q16 : c.kind = 16
  · unfold stepP
    rw [if_neg q1, if_neg q2, if_neg q3, if_neg q4, if_neg q5, if_neg q6, if_neg q7, if_neg q8, if_neg q9, if_neg q10, if_neg q11, if_neg q12, if_neg q13, if_neg q14, if_neg q15, if_pos q16]
    exact do_of 54 h hb.ok.kind (by rw [q16]; rfl) (enters_of Tryz.func54 (by kernel_rfl) rfl) _ _ fun W hW hi => P_usage hi (hb.ab hW) hl
  unfold stepP
  rw [if_neg q1, if_neg q2, if_neg q3, if_neg q4, if_neg q5, if_neg q6, if_neg q7, if_neg q8, if_neg q9, if_neg q10, if_neg q11, if_neg q12, if_neg q13, if_neg q14, if_neg q15, if_neg q16]
  refine do_bad h hb.ok.kind ?_
  refine lookL_none.2 fun p hp => ?_
  unfold howL at hp
  simp only [List.mem_cons, List.not_mem_nil, or_false] at hp
  rcases hp with rfl | rfl | rfl | rfl | rfl | rfl | rfl | rfl | rfl | rfl | rfl | rfl | rfl | rfl | rfl | rfl
  · exact fun e => q1 e.symm
  · exact fun e => q2 e.symm
  · exact fun e => q3 e.symm
  · exact fun e => q4 e.symm
  · exact fun e => q5 e.symm
  · exact fun e => q6 e.symm
  · exact fun e => q7 e.symm
  · exact fun e => q8 e.symm
  · exact fun e => q9 e.symm
  · exact fun e => q10 e.symm
  · exact fun e => q11 e.symm
  · exact fun e => q12 e.symm
  · exact fun e => q13 e.symm
  · exact fun e => q14 e.symm
  · exact fun e => q15 e.symm
  · exact fun e => q16 e.symm
end
end Go.Proofs.YtnnjmelibmiimaaGreat
namespace Go.Proofs.YtnnjmelibmiimaaGreat
open Go.RowKit
set_option linter.unusedVariables false
set_option linter.unusedSimpArgs false

theorem cell_lt {w : World} {g j : Nat} {v : Value} (h : w.cell? ⟨g, j, none⟩ = some v) : g < w.heap.size := by
  rcases Nat.lt_or_ge g w.heap.size with h1 | h1
  · exact h1
  · unfold World.cell? at h
    simp [Array.getElem?_eq_none h1] at h
structure PrR (w : World) (A : Option Addr) (n c : Nat) (l : Bk2) : Prop where
  len : l.length = n
  le : n ≤ 1000000
  cel : ∀ (i : Nat) (q : Ky × List Nat), l[i]? = some q → ∃ g kA kn kc vA vn vc kl, A = some ⟨g, 0, none⟩ ∧ w.cell? ⟨g, i * 2, none⟩ = some (.slice kA kn kc) ∧ w.cell? ⟨g, i * 2 + 1, none⟩ = some (.slice vA vn vc) ∧ IsB w kA kn kc kl ∧ k8 kl = q.1 ∧ IsB w vA vn vc q.2
section
variable {w w' : World} {C : Nat} {O : Tg} {A : Option Addr} {n c : Nat} {l : Bk2}
theorem row_cells {W : World} {B n s : Nat} {e : TypeId} {A : Option Addr} {m c : Nat} {xs : List Value} (h : W.ownsRow B e s (.slice A m c) n xs) (hn : 0 < n) : ∃ g, A = some ⟨g, 0, none⟩ ∧ ∀ (j : Nat) (u : Value), xs[j]? = some u → W.cell? ⟨g, j, none⟩ = some u := by
  rcases h.2 with ⟨_, h0⟩ | ⟨g, cap, cur, e1, hb, hg, h3, h4, h5, h6⟩
  · omega
  · simp only [Value.slice.injEq] at e1
    refine ⟨g, e1.1, fun j u hj => ?_⟩
    have hjl : j < n * s := by have := (List.getElem?_eq_some_iff.1 hj).1; rw [h.1] at this; exact this
    have h7 : (cur.toList.take (n * s))[j]? = some u := by rw [h6]; exact hj
    rw [List.getElem?_take_of_lt hjl] at h7
    rw [cell_of_row W g j _ _ (0, 0) hg]
    simpa using h7
theorem KyB.isB {v : Value} {kl : List Nat} {kA : Option Addr} {kn kc : Nat} (h : KyB w C v kl) (hv : v = .slice kA kn kc) : IsB w kA kn kc kl := by
  obtain ⟨g, n, cap, cs, fr, e, _, _, h3⟩ := h
  rw [hv] at e
  simp only [Value.slice.injEq] at e
  obtain ⟨rfl, rfl, rfl⟩ := e
  exact h3
theorem flat_at (vs : List (Value × Value)) (i : Nat) (p : Value × Value) (h : vs[i]? = some p) : (vs.flatMap fun p => [p.1, p.2])[i * 2]? = some p.1 ∧ (vs.flatMap fun p => [p.1, p.2])[i * 2 + 1]? = some p.2 := by
  induction vs generalizing i with
  | nil => simp at h
  | cons q r ih =>
    rw [List.flatMap_cons]
    cases i with
    | zero => simp at h; subst h; simp
    | succ i =>
      rw [List.getElem?_cons_succ] at h
      have := ih i h
      rw [show (i + 1) * 2 = i * 2 + 1 + 1 by omega]
      simpa using this
theorem PrR.ab (h : PrR w A n c l) (hb : Below w.heap.size w w') : PrR w' A n c l := ⟨h.len, h.le, fun i q hq => by
  obtain ⟨g, kA, kn, kc, vA, vn, vc, kl, e, a1, a2, a3, a4, a5⟩ := h.cel i q hq
  have hg := cell_lt a1
  exact ⟨g, kA, kn, kc, vA, vn, vc, kl, e, (World.cell?_of_block (hb.block g hg)).trans a1, (World.cell?_of_block (hb.block g hg)).trans a2, a3.ab hb, a4, a5.ab hb⟩⟩
theorem PrB.rd (h : PrB w C O (.slice A n c) l) (hl : l.length ≤ 1000000) : PrR w A n c l := by
  obtain ⟨vs, h1, h2, h3, h4⟩ := h
  have hn : l.length = n := by
    rcases h1.2 with ⟨e, h0⟩ | ⟨g, cap, cur, e, _⟩
    · simp only [Value.slice.injEq] at e; omega
    · simp only [Value.slice.injEq] at e; omega
  refine ⟨hn, by omega, fun i q hq => ?_⟩
  have hi := (List.getElem?_eq_some_iff.1 hq).1
  obtain ⟨g, hA, hc⟩ := row_cells h1 (by omega)
  obtain ⟨p, hp⟩ : ∃ p, vs[i]? = some p := ⟨_, List.getElem?_eq_getElem (by omega)⟩
  obtain ⟨⟨kl, k1, k2⟩, k3, _⟩ := h4 i p q hp hq
  obtain ⟨f1, f2⟩ := flat_at vs i p hp
  obtain ⟨kA, kn, kc, e1⟩ : ∃ kA kn kc, p.1 = .slice kA kn kc := by obtain ⟨g, n, cap, cs, fr, e, _⟩ := id k1; exact ⟨_, _, _, e⟩
  obtain ⟨vA, vn, vc, e2⟩ := row_sl k3.own
  refine ⟨g, kA, kn, kc, vA, vn, vc, kl, hA, by rw [← e1]; exact hc _ _ f1, by rw [← e2]; exact hc _ _ f2, k1.isB e1, k2, ?_⟩
  obtain ⟨A2, c2, e3, _⟩ := k3.shape
  rw [e2] at e3
  simp only [Value.slice.injEq] at e3
  obtain ⟨rfl, rfl, rfl⟩ := e3
  rw [e2] at k3
  exact k3.isB rfl
end
theorem strOf_eq {a b : List Nat} (h : k8 a = k8 b) : strOf a = strOf b := by unfold strOf; unfold k8 at h; rw [h]
set_option maxRecDepth 100000 in
set_option maxHeartbeats 2000000 in
theorem prsSame_yes (A B : Option Addr) (n c m d : Nat) (l : Bk2) (w : World) (h : PrR w A n c l) (k : PrR w B m d l) :
    Calls Tryz.prog 24 #[.slice A n c, .slice B m d] w fun e w' => e = .returned (.bool true) ∧ Below w.heap.size w w' := by
  obtain rfl : n = m := h.len.symm.trans k.len
  have H := Lib.hid h
  have K := Lib.hid k
  have n0 : (n : Int) ≤ 1000000 := by have := h.le; omega
  clear h k
  go_enter Tryz.func24, Tryz.ntmps24
  go_wp2_with fail
  go_loopw [5] (fun z wr => ∃ i : Nat, i ≤ n ∧ z = .int .i64 (i : Int) ∧ ∃ q, wr = w.drewN q) (fun z _ => n - (intOf z).toNat)
  case atStart => exact ⟨0, Nat.zero_le _, rfl, 0, rfl⟩
  case round =>
    obtain ⟨i, hi, rfl, q0, rfl⟩ := hrel
    by_cases hlt : i < n
    · obtain ⟨q, hq⟩ : ∃ q, l[i]? = some q := ⟨_, List.getElem?_eq_getElem (by rw [H.out.len]; exact hlt)⟩
      obtain ⟨g, kA, kn, kc, vA, vn, vc, kl, rfl, a1, a2, a3, a4, a5⟩ := H.out.cel i q hq
      obtain ⟨g', kA', kn', kc', vA', vn', vc', kl', rfl, b1, b2, b3, b4, b5⟩ := K.out.cel i q hq
      have s1 := fun r => run_str (a3.drewN r) 31 5 9 Tryz.underlying31 Tryz.underlying5 Tryz.underlying9
      have s2 := fun r => run_str (b3.drewN r) 31 5 9 Tryz.underlying31 Tryz.underlying5 Tryz.underlying9
      rw [strOf_eq (b4.trans a4.symm)] at s2
      have s3 := fun r => run_str (a5.drewN r) 31 5 9 Tryz.underlying31 Tryz.underlying5 Tryz.underlying9
      have s4 := fun r => run_str (b5.drewN r) 31 5 9 Tryz.underlying31 Tryz.underlying5 Tryz.underlying9
      have hlti : (i : Int) < (n : Int) := by omega
      have hi0 : (0 : Int) ≤ (i : Int) := by omega
      have KL := Lib.hid hlt
      clear a3 a4 a5 b3 b4 b5 hq hi hlt
      go_wp2_with fail
      go_quiet (fail)
      go_wp2_with fail
      go_roundw
      case rel => exact ⟨i + 1, KL.out, by go_num, _, rfl⟩
      case measure => simp [intOf]; have := KL.out; omega
    · obtain rfl : i = n := by omega
      clear hi hlt
      go_wp2_with fail
      go_ret
      exact ⟨rfl, bel_drewN (Below.refl _ _) _⟩
/-- an answer to be read -/
theorem nums_at {w : World} {C : Nat} {A : Option Addr} {n c : Nat} {l : List Nat} (h : U32.NsB w C (.slice A n c) l) : l.length = n ∧ ∀ (i x : Nat), l[i]? = some x → ∃ g, A = some ⟨g, 0, none⟩ ∧ g < w.heap.size ∧ w.cell? ⟨g, i, none⟩ = some (.int .u32 (x : Int)) := by
  have hn : l.length = n := by
    rcases h.2 with ⟨e, h0⟩ | ⟨g, cap, cur, e, _⟩
    · simp only [Value.slice.injEq] at e; omega
    · simp only [Value.slice.injEq] at e; omega
  refine ⟨hn, fun i x hi => ?_⟩
  have hil := (List.getElem?_eq_some_iff.1 hi).1
  obtain ⟨g, hA, hc⟩ := row_cells h (by omega)
  have h9 : w.cell? ⟨g, i, none⟩ = some (.int .u32 (x : Int)) := hc i _ (by simp [U32.nvs, hi])
  exact ⟨g, hA, cell_lt h9, h9⟩
set_option maxRecDepth 100000 in
set_option maxHeartbeats 4000000 in
theorem ansSame_yes (w : World) (C C' : Nat) (O O' : Tg) (cs cs' : Array Value) (a : AnsP) (h : AnsB w C O cs a) (k : AnsB w C' O' cs' a) (hp : a.prs.length ≤ 1000000) (hl : a.lst.length ≤ 1000000) (hv : Byt a.val) :
    Calls Tryz.prog 12 #[.agg cs, .agg cs'] w fun e w' => e = .returned (.bool true) ∧ Below w.heap.size w w' := by
  obtain ⟨⟨v, p, l, rfl, h1, h2, h3, h4, h5⟩⟩ := h
  obtain ⟨⟨v', p', l', rfl, k1, k2, k3, k4, k5⟩⟩ := k
  obtain ⟨A1, n1, c1, rfl⟩ := row_sl h1.own
  obtain ⟨B1, m1, d1, rfl⟩ := row_sl k1.own
  obtain ⟨A2, n2, c2, rfl⟩ : ∃ A n c, p = .slice A n c := by obtain ⟨vs, q1, _⟩ := h3; exact row_sl q1
  obtain ⟨B2, m2, d2, rfl⟩ : ∃ A n c, p' = .slice A n c := by obtain ⟨vs, q1, _⟩ := k3; exact row_sl q1
  obtain ⟨A3, n3, c3, rfl⟩ := row_sl h4
  obtain ⟨B3, m3, d3, rfl⟩ := row_sl k4
  have i1 : IsB w A1 n1 c1 a.val := by
    obtain ⟨X, cx, e, _⟩ := h1.shape
    simp only [Value.slice.injEq] at e
    obtain ⟨rfl, rfl, rfl⟩ := e
    exact h1.isB rfl
  have j1 : IsB w B1 m1 d1 a.val := by
    obtain ⟨X, cx, e, _⟩ := k1.shape
    simp only [Value.slice.injEq] at e
    obtain ⟨rfl, rfl, rfl⟩ := e
    exact k1.isB rfl
  have r1 := h3.rd hp
  have r2 := k3.rd hp
  obtain ⟨l1, l2⟩ := nums_at h4
  obtain ⟨g1, g2⟩ := nums_at k4
  obtain rfl : n3 = m3 := l1.symm.trans g1
  have ha : Below w.heap.size w ((w.alloc (.cells #[.int .i64 a.err, .int .u64 (a.hd : Int), .int .u64 (a.sn : Int), .slice A1 n1 c1, .slice A2 n2 c2, .int .i64 a.cnt, .slice A3 n3 c3] 40)).alloc (.cells #[.int .i64 a.err, .int .u64 (a.hd : Int), .int .u64 (a.sn : Int), .slice B1 m1 d1, .slice B2 m2 d2, .int .i64 a.cnt, .slice B3 n3 d3] 40)) := ((Below.refl _ _).alloc (Nat.le_refl _) _).alloc (by simp) _
  have x1 : CbB ((w.alloc (.cells #[.int .i64 a.err, .int .u64 (a.hd : Int), .int .u64 (a.sn : Int), .slice A1 n1 c1, .slice A2 n2 c2, .int .i64 a.cnt, .slice A3 n3 c3] 40)).alloc (.cells #[.int .i64 a.err, .int .u64 (a.hd : Int), .int .u64 (a.sn : Int), .slice B1 m1 d1, .slice B2 m2 d2, .int .i64 a.cnt, .slice B3 n3 d3] 40)) w.heap.size 40 #[.int .i64 a.err, .int .u64 (a.hd : Int), .int .u64 (a.sn : Int), .slice A1 n1 c1, .slice A2 n2 c2, .int .i64 a.cnt, .slice A3 n3 c3] := (CbB.new w _ _).ab ((Below.refl _ _).alloc (Nat.le_refl _) _)
  have x2 : CbB ((w.alloc (.cells #[.int .i64 a.err, .int .u64 (a.hd : Int), .int .u64 (a.sn : Int), .slice A1 n1 c1, .slice A2 n2 c2, .int .i64 a.cnt, .slice A3 n3 c3] 40)).alloc (.cells #[.int .i64 a.err, .int .u64 (a.hd : Int), .int .u64 (a.sn : Int), .slice B1 m1 d1, .slice B2 m2 d2, .int .i64 a.cnt, .slice B3 n3 d3] 40)) (w.heap.size + 1) 40 #[.int .i64 a.err, .int .u64 (a.hd : Int), .int .u64 (a.sn : Int), .slice B1 m1 d1, .slice B2 m2 d2, .int .i64 a.cnt, .slice B3 n3 d3] := CbB.newI (by simp)
  have n30 : (n3 : Int) ≤ 1000000 := by omega
  have L1 := Lib.hid fun (i x : Nat) (hi : a.lst[i]? = some x) => l2 i x hi
  have G1 := Lib.hid fun (i x : Nat) (hi : a.lst[i]? = some x) => g2 i x hi
  have LN := Lib.hid l1
  clear h1 h2 h3 h4 h5 k1 k2 k3 k4 k5 hv l2 g2 g1
  go_enter Tryz.func12, Tryz.ntmps12
  go_upto_region 1 with (fail)
  obtain ⟨w0, hw0⟩ : ∃ w0, ((w.alloc (.cells #[.int .i64 a.err, .int .u64 (a.hd : Int), .int .u64 (a.sn : Int), .slice A1 n1 c1, .slice A2 n2 c2, .int .i64 a.cnt, .slice A3 n3 c3] 40)).alloc (.cells #[.int .i64 a.err, .int .u64 (a.hd : Int), .int .u64 (a.sn : Int), .slice B1 m1 d1, .slice B2 m2 d2, .int .i64 a.cnt, .slice B3 n3 d3] 40)) = w0 := ⟨_, rfl⟩
  rw [hw0] at ha x1 x2 ⊢
  clear hw0
  have s1 := run_str (i1.ab ha) 31 5 9 Tryz.underlying31 Tryz.underlying5 Tryz.underlying9
  have s2 := run_str (j1.ab ha) 31 5 9 Tryz.underlying31 Tryz.underlying5 Tryz.underlying9
  have HP := Lib.hid (prsSame_yes A2 B2 n2 c2 m2 d2 a.prs w0 (r1.ab ha) (r2.ab ha))
  have u0 : w0.cell? ⟨w.heap.size, 0, none⟩ = some (.int .i64 a.err) := x1.cell (k := 0) rfl
  have u1 : w0.cell? ⟨w.heap.size, 1, none⟩ = some (.int .u64 (a.hd : Int)) := x1.cell (k := 1) rfl
  have u2 : w0.cell? ⟨w.heap.size, 2, none⟩ = some (.int .u64 (a.sn : Int)) := x1.cell (k := 2) rfl
  have u3 : w0.cell? ⟨w.heap.size, 3, none⟩ = some (.slice A1 n1 c1) := x1.cell (k := 3) rfl
  have u4 : w0.cell? ⟨w.heap.size, 4, none⟩ = some (.slice A2 n2 c2) := x1.cell (k := 4) rfl
  have u5 : w0.cell? ⟨w.heap.size, 5, none⟩ = some (.int .i64 a.cnt) := x1.cell (k := 5) rfl
  have t0 : w0.cell? ⟨w.heap.size + 1, 0, none⟩ = some (.int .i64 a.err) := x2.cell (k := 0) rfl
  have t1 : w0.cell? ⟨w.heap.size + 1, 1, none⟩ = some (.int .u64 (a.hd : Int)) := x2.cell (k := 1) rfl
  have t2 : w0.cell? ⟨w.heap.size + 1, 2, none⟩ = some (.int .u64 (a.sn : Int)) := x2.cell (k := 2) rfl
  have t3 : w0.cell? ⟨w.heap.size + 1, 3, none⟩ = some (.slice B1 m1 d1) := x2.cell (k := 3) rfl
  have t4 : w0.cell? ⟨w.heap.size + 1, 4, none⟩ = some (.slice B2 m2 d2) := x2.cell (k := 4) rfl
  have t5 : w0.cell? ⟨w.heap.size + 1, 5, none⟩ = some (.int .i64 a.cnt) := x2.cell (k := 5) rfl
  have X1 := Lib.hid x1
  have X2 := Lib.hid x2
  have HA := Lib.hid ha
  clear ha x1 x2 i1 j1 r1 r2
  go_wp2_with fail
  refine HP.out.mono ?_
  rintro e w1 ⟨rfl, hb⟩
  have v6 : ∀ q, (w1.drewN q).cell? ⟨w.heap.size, 6, none⟩ = some (.slice A3 n3 c3) := fun q => (X1.out.ab hb).cell (k := 6) rfl
  have z6 : ∀ q, (w1.drewN q).cell? ⟨w.heap.size + 1, 6, none⟩ = some (.slice B3 n3 d3) := fun q => (X2.out.ab hb).cell (k := 6) rfl
  have v60 : w1.cell? ⟨w.heap.size, 6, none⟩ = some (.slice A3 n3 c3) := v6 0
  have z60 : w1.cell? ⟨w.heap.size + 1, 6, none⟩ = some (.slice B3 n3 d3) := z6 0
  have B1 := Lib.hid (below_tr HA.out hb HA.out.size)
  have HB1 := Lib.hid hb
  clear hb HP u0 u1 u2 u3 u4 u5 t0 t1 t2 t3 t4 t5 s1 s2
  go_wp2_with fail
  go_loopw [5] (fun z wr => ∃ i : Nat, i ≤ n3 ∧ z = .int .i64 (i : Int) ∧ ∃ q, wr = w1.drewN q) (fun z _ => n3 - (intOf z).toNat)
  case atStart => exact ⟨0, Nat.zero_le _, rfl, 0, rfl⟩
  case round =>
    obtain ⟨i, hi, rfl, q0, rfl⟩ := hrel
    by_cases hlt : i < n3
    · obtain ⟨x, hx⟩ : ∃ x, a.lst[i]? = some x := ⟨_, List.getElem?_eq_getElem (by rw [LN.out]; exact hlt)⟩
      obtain ⟨g, rfl, al, a1⟩ := L1.out i x hx
      obtain ⟨g', rfl, bl, b1⟩ := G1.out i x hx
      have a2 : w1.cell? ⟨g, i, none⟩ = some (.int .u32 (x : Int)) := (World.cell?_of_block (B1.out.block g al)).trans a1
      have b2 : w1.cell? ⟨g', i, none⟩ = some (.int .u32 (x : Int)) := (World.cell?_of_block (B1.out.block g' bl)).trans b1
      have hlti : (i : Int) < (n3 : Int) := by omega
      have hi0 : (0 : Int) ≤ (i : Int) := by omega
      have KL := Lib.hid hlt
      clear a1 b1 al bl hx hi hlt
      go_wp2_with fail
      go_quiet (fail)
      go_wp2_with fail
      go_roundw
      case rel => exact ⟨i + 1, KL.out, by go_num, _, rfl⟩
      case measure => simp [intOf]; have := KL.out; omega
    · obtain rfl : i = n3 := by omega
      clear hi hlt
      go_wp2_with fail
      go_ret
      exact ⟨rfl, bel_drewN B1.out _⟩
end Go.Proofs.YtnnjmelibmiimaaGreat
namespace Go.Proofs.YtnnjmelibmiimaaGreat
open Go.RowKit Go.ChangeShapes
set_option linter.unusedVariables false

section
variable {H : Type} {enc : TypeId × Value → H} {P : Program} {W : World}
/-- a slice of bytes in a field -/
theorem isB_trod {t e : TypeId} {fuel : Nat} {cs : List Value} {x : DataW H × List MemPlace} (ht : P.underlying t = some (.slice e)) (he : P.underlying e = some (.int .u8)) (hc : P.cellsOf e = 1)
    (h : DataW.trod enc P W 0 (fun _ => true) true fuel t cs = some x) (hlt : ∀ q ∈ x.2, q.block < W.heap.size) : ∃ A n c l, cs = [.slice A n c] ∧ IsB W A n c l := by
  rcases open_ints ht he hc h with ⟨rfl, rfl⟩ | ⟨a, len, cap, zs, rfl, _, hl, hm, hz, rfl, hcell, hwz⟩
  · exact ⟨none, 0, 0, [], rfl, ⟨rfl, Nat.le_refl _, Nat.zero_le _, fun z hz => by simp at hz, .inl ⟨rfl, rfl⟩⟩, fun x hx => by cases hx⟩
  · have hz' : zs.length = cap := by simpa using hz
    have hrow : IsRow .u8 W (some a) len cap (zs.take len) := ⟨by simp [hz']; omega, hl, hm, fun z hzm => hwz z (List.mem_of_mem_take hzm), .inr ⟨a, rfl, fun h0 => by
      have h1 : MemPlace.cell a.block a.off ∈ MemPlace.row a zs.length := by
        rw [hz']
        exact List.mem_map.2 ⟨0, List.mem_range.2 h0, by simp⟩
      exact hlt _ h1, fun i hi => by
        rw [hcell i (by omega)]
        simp [List.getD_eq_getElem?_getD, hi]⟩⟩
    obtain ⟨l, e, hb⟩ := byt_of_row hrow
    rw [e] at hrow
    exact ⟨some a, len, cap, l, rfl, hrow, hb⟩
end
end Go.Proofs.YtnnjmelibmiimaaGreat
namespace Go.Proofs.YtnnjmelibmiimaaGreat
open Go.RowKit Go.ChangeShapes Go.WideShapes
set_option linter.unusedVariables false

section
variable {H : Type} {enc : TypeId × Value → H} {P : Program} {W : World}
theorem int_trodX {t : TypeId} {k : IntKind} {fuel : Nat} {cs : List Value} {x : DataW H × List MemPlace} (ht : P.underlying t = some (.int k))
    (h : DataW.trod enc P W 0 (fun _ => true) true fuel t cs = some x) : ∃ z, cs = [.int k z] ∧ (Lit.int k z).wf = true := by
  cases fuel with
  | zero => simp [DataW.trod] at h
  | succ fuel =>
    unfold DataW.trod at h
    rw [ht] at h
    match cs, h with
    | [.int k' n], h =>
      simp only at h
      split at h
      · rename_i hk
        exact ⟨n, by rw [hk.1], hk.2⟩
      · cases h
theorem nat_intX {k : IntKind} {z : Int} {m : Nat} (h : (Lit.int k z).wf = true) (h0 : k.min = 0) (hm : k.max < (m : Int)) : ∃ n : Nat, z = (n : Int) ∧ n < m := by
  simp only [Lit.wf, Bool.and_eq_true, decide_eq_true_eq] at h
  exact ⟨z.toNat, by omega, by omega⟩
theorem trod_struct3X {t : TypeId} {f0 f1 f2 : Field} {base : Nat} {spare : Nat → Bool} {held : Bool} {fuel : Nat} {cs : List Value} {x : DataW H × List MemPlace} (ht : P.underlying t = some (.struct #[f0, f1, f2])) (h : DataW.trod enc P W base spare held fuel t cs = some x) :
    ∃ y0 y1 y2 n, x = (.agg [y0.1, y1.1, y2.1], y0.2 ++ (y1.2 ++ y2.2)) ∧ cs.length = P.cellsOf t ∧ DataW.trod enc P W base spare held n f0.type ((cs.drop f0.offset).take (P.cellsOf f0.type)) = some y0 ∧
      DataW.trod enc P W base spare held n f1.type ((cs.drop f1.offset).take (P.cellsOf f1.type)) = some y1 ∧ DataW.trod enc P W base spare held n f2.type ((cs.drop f2.offset).take (P.cellsOf f2.type)) = some y2 := by
  obtain ⟨xs, n, _, rfl, hl, hlen, hf⟩ := DataW.trod_struct ht h
  match xs, hlen with
  | [y0, y1, y2], _ => exact ⟨y0, y1, y2, n, by simp, hl, by simpa using hf 0 f0 rfl, by simpa using hf 1 f1 rfl, by simpa using hf 2 f2 rfl⟩
theorem bool_trodX {t : TypeId} {fuel : Nat} {cs : List Value} {x : DataW H × List MemPlace} (ht : P.underlying t = some .bool)
    (h : DataW.trod enc P W 0 (fun _ => true) true fuel t cs = some x) : ∃ b, cs = [.bool b] := by
  cases fuel with
  | zero => simp [DataW.trod] at h
  | succ fuel =>
    unfold DataW.trod at h
    rw [ht] at h
    match cs, h with
    | [.bool b], _ => exact ⟨b, rfl⟩
end
theorem list_ofX {α : Type} {Q : Nat → α → Prop} : ∀ (n : Nat), (∀ i, i < n → ∃ q, Q i q) → ∃ l : List α, l.length = n ∧ ∀ (i : Nat) (q : α), l[i]? = some q → Q i q
  | 0, _ => ⟨[], rfl, fun i q h => by simp at h⟩
  | n + 1, h => by
    obtain ⟨l, hl, hq⟩ := list_ofX n fun i hi => h i (by omega)
    obtain ⟨q, hn⟩ := h n (by omega)
    refine ⟨l ++ [q], by simp [hl], fun i p hp => ?_⟩
    rcases Nat.lt_or_ge i n with hi | hi
    · exact hq i p (by rwa [List.getElem?_append_left (by omega)] at hp)
    · rw [List.getElem?_append_right (by omega)] at hp
      obtain ⟨hj, hp⟩ := List.getElem?_eq_some_iff.1 hp
      simp at hj hp
      subst hp
      obtain rfl : i = n := by omega
      exact hn
end Go.Proofs.YtnnjmelibmiimaaGreat
namespace Go.Proofs.YtnnjmelibmiimaaGreat
open Go.RowKit Go.ChangeShapes Go.WideShapes
set_option linter.unusedVariables false
set_option linter.unusedSimpArgs false

section
variable {H : Type} {enc : TypeId × Value → H} {W : World}
theorem sl_trod {α : Type} {t e : TypeId} {fuel : Nat} {cs : List Value} {x : DataW H × List MemPlace} (Q : Addr → α → Prop) (ht : Tryz.prog.underlying t = some (.slice e)) (k : Nat) (hk : Tryz.prog.cellsOf e = k) (hk0 : 0 < k)
    (h : DataW.trod enc Tryz.prog W 0 (fun _ => true) true fuel t cs = some x) (hlt : ∀ q ∈ x.2, q.block < W.heap.size)
    (hel : ∀ (n : Nat) (a : Addr) (cs' : List Value) (y : DataW H × List MemPlace), cs'.length = k → (∀ i, i < k → W.cell? (a.add i) = cs'[i]?) → DataW.trod enc Tryz.prog W 0 (fun _ => true) true n e cs' = some y → (∀ q ∈ y.2, q.block < W.heap.size) → ∃ q : α, Q a q) :
    ∃ (A : Option Addr) (n c : Nat) (l : List α), cs = [.slice A n c] ∧ l.length = n ∧ n ≤ c ∧ c ≤ maxLen ∧ ∀ (i : Nat) (q : α), l[i]? = some q → ∃ a, A = some a ∧ a.block < W.heap.size ∧ Q (a.add (i * k)) q := by
  rcases Go.Deep.open_slice ht h with ⟨rfl, rfl⟩ | ⟨a, len, cap, m, n, D, Pl, rfl, _, hl, hm, hmm, rfl, hx⟩
  · exact ⟨none, 0, 0, [], rfl, rfl, Nat.le_refl _, Nat.zero_le _, fun i q hq => by simp at hq⟩
  · have hmc : m = cap := by simpa using hmm
    subst hmc
    rw [hk] at hx
    have each : ∀ i, i < len → ∃ q : α, Q (a.add (i * k)) q := fun i hi => by
      obtain ⟨cs', h1, h2⟩ := hx i (by omega)
      obtain ⟨_, h3, h4⟩ := World.cells?_some h1
      exact hel n _ cs' _ h3 h4 h2 fun q hq => hlt q (List.mem_append_right _ (List.mem_flatMap.2 ⟨i, List.mem_range.2 (by omega), hq⟩))
    obtain ⟨l, hll, hlq⟩ := list_ofX len each
    refine ⟨some a, len, m, l, rfl, hll, hl, hm, fun i q hq => ⟨a, rfl, ?_, hlq i q hq⟩⟩
    have hin : i < len := by rw [← hll]; exact (List.getElem?_eq_some_iff.1 hq).1
    have h1 : MemPlace.cell a.block a.off ∈ MemPlace.row a (m * Tryz.prog.cellsOf e) := List.mem_map.2 ⟨0, List.mem_range.2 (by rw [hk]; exact Nat.mul_pos (by omega) hk0), by simp⟩
    exact hlt _ (List.mem_append_left _ h1)
def OpQ (W : World) (a : Addr) (o : OpP) : Prop := W.cell? a = some (.slice o.k.A o.k.n o.k.c) ∧ W.cell? (a.add 1) = some (.slice o.v.A o.v.n o.v.c) ∧ W.cell? (a.add 2) = some (.bool o.d) ∧ IsB W o.k.A o.k.n o.k.c o.k.l ∧ IsB W o.v.A o.v.n o.v.c o.v.l
theorem addZ (a : Addr) {v : Value} (h : W.cell? (a.add 0) = some v) : W.cell? a = some v := by
  obtain ⟨b, o, u⟩ := a
  cases u <;> simpa [Addr.add] using h
set_option maxRecDepth 100000 in
theorem op_trod (n : Nat) (a : Addr) (cs' : List Value) (y : DataW H × List MemPlace) (h3 : cs'.length = 3) (h4 : ∀ i, i < 3 → W.cell? (a.add i) = cs'[i]?) (h : DataW.trod enc Tryz.prog W 0 (fun _ => true) true n 68 cs' = some y) (hlt : ∀ q ∈ y.2, q.block < W.heap.size) : ∃ q : OpP, OpQ W a q := by
  obtain ⟨y0, y1, y2, m, hx, hl, h0, h1, h2⟩ := trod_struct3X Tryz.underlying68 h
  have cb : Tryz.prog.cellsOf 31 = 1 := by kernel_rfl
  have cl : Tryz.prog.cellsOf 4 = 1 := by kernel_rfl
  have c8 : Tryz.prog.cellsOf 5 = 1 := by kernel_rfl
  have hp : y.2 = y0.2 ++ (y1.2 ++ y2.2) := by simpa using congrArg (·.2) hx
  obtain ⟨v0, v1, v2, rfl⟩ : ∃ c0 c1 c2, cs' = [c0, c1, c2] := by
    match cs', h3 with
    | [a, b, c], _ => exact ⟨a, b, c, rfl⟩
  simp only [cb, cl] at h0 h1 h2
  obtain ⟨kA, kn, kc, kl, e0, i0⟩ := isB_trod Tryz.underlying31 Tryz.underlying5 c8 h0 (fun q hq => hlt q (by rw [hp]; simp [hq]))
  obtain ⟨vA, vn, vc, vl, e1, i1⟩ := isB_trod Tryz.underlying31 Tryz.underlying5 c8 h1 (fun q hq => hlt q (by rw [hp]; simp [hq]))
  obtain ⟨d, e2⟩ := bool_trodX Tryz.underlying4 h2
  simp at e0 e1 e2
  subst e0 e1 e2
  exact ⟨⟨⟨kA, kn, kc, kl⟩, ⟨vA, vn, vc, vl⟩, d⟩, addZ a (h4 0 (by decide)), h4 1 (by decide), h4 2 (by decide), i0, i1⟩
theorem ops_of {A : Option Addr} {n c : Nat} {ops : List OpP} (h1 : ops.length = n) (h2 : n ≤ c) (h3 : c ≤ maxLen) (h4 : ∀ (i : Nat) (q : OpP), ops[i]? = some q → ∃ a, A = some a ∧ a.block < W.heap.size ∧ OpQ W (a.add (i * 3)) q) : OpsB W A n c ops :=
  ⟨h1, h2, h3, fun i o ho => by
    obtain ⟨a, rfl, hb, k0, k1, k2, k3, k4⟩ := h4 i o ho
    exact ⟨a, rfl, hb, k0, k1, k2, k3, k4⟩⟩
set_option maxRecDepth 100000 in
theorem ops_trod {n : Nat} {cs' : List Value} {y : DataW H × List MemPlace} (h : DataW.trod enc Tryz.prog W 0 (fun _ => true) true n 34 cs' = some y) (hlt : ∀ q ∈ y.2, q.block < W.heap.size) : ∃ A m c ops, cs' = [.slice A m c] ∧ OpsB W A m c ops := by
  obtain ⟨A, m, c, l, e, h1, h2, h3, h4⟩ := sl_trod (OpQ W) Tryz.underlying34 3 (by kernel_rfl) (by decide) h hlt (fun n a cs' y g1 g2 g3 g4 => op_trod n a cs' y g1 g2 g3 g4)
  exact ⟨A, m, c, l, e, ops_of h1 h2 h3 h4⟩
end
end Go.Proofs.YtnnjmelibmiimaaGreat
