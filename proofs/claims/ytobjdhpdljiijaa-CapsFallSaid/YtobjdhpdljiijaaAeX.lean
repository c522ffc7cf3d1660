/-
  WALKS: columns: the program's Mix and Unmix, the reference's.
  WALKS: Mix and Unmix, the program's and the reference's.
  WALKS: the reference's rows, Mix and Unmix.
  WALKS: the state's steps: add, each, shift.
  WALKS: the state's shift.
  WALKS: the state's columns.
  PLAIN: a key's words, as bytes one behind the other; loads at any address, a slice of bytes that came in, stores into the middle of a block.
-/
import Derived.Test.YtobjdhpdljiijaaBlk
import Derived.StillTailTactics
import Derived.Laws.CopyOwn
import Derived.Deep.MidRow
namespace Go.Proofs.Ytobjdhpdljiijaa
open Go.RowKit
set_option linter.unusedVariables false

/-- a row times a column, k places of it -/
def rowAcc (r c : List Nat) : Nat → Nat
  | 0 => 0
  | k + 1 => rowAcc r c k ^^^ gmul (r[k]?.getD 0) (c[k]?.getD 0)
def rowOf (R : List Nat) (i : Nat) : List Nat := (R.drop (4 * i)).take 4
def byRows (R c : List Nat) : List Nat := (List.range 4).map fun i => rowAcc (rowOf R i) c 4
/-- bytes -/
def Byt (l : List Nat) : Prop := ∀ x ∈ l, x < 256
theorem Byt.get {l : List Nat} (h : Byt l) (k : Nat) : l[k]?.getD 0 < 256 := by
  cases hk : l[k]? with
  | none => simp
  | some x => exact h x (List.mem_of_getElem? hk)
theorem rowAcc_lt {r c : List Nat} (hr : Byt r) : ∀ k, rowAcc r c k < 256
  | 0 => by simp [rowAcc]
  | k + 1 => xor_lt (rowAcc_lt hr k) (gmul_lt _ (hr.get k))
theorem rowOf_byt {R : List Nat} (h : Byt R) (i : Nat) : Byt (rowOf R i) := fun x hx => h x (List.mem_of_mem_drop (List.mem_of_mem_take hx))
theorem byRows_byt {R c : List Nat} (h : Byt R) : Byt (byRows R c) := by
  intro x hx
  simp only [byRows, List.mem_map, List.mem_range] at hx
  obtain ⟨i, _, rfl⟩ := hx
  exact rowAcc_lt (rowOf_byt h i) 4
theorem byRows_len (R c : List Nat) : (byRows R c).length = 4 := by simp [byRows]

theorem infoB : ∃ i, Try.prog.info? 5 = some i ∧ i.size = 1 := by
  have h : (Try.prog.info? 5).map (·.size) = some 1 := by kernel_rfl
  cases hq : Try.prog.info? 5 with
  | none => rw [hq] at h; cases h
  | some i => exact ⟨i, rfl, by rw [hq] at h; simpa using h⟩

def byF (R c : List Nat) (i : Nat) : Nat := rowAcc (rowOf R i) c 4
end Go.Proofs.Ytobjdhpdljiijaa

namespace Go.Proofs.Ytobjdhpdljiijaa
open Go.RowKit
set_option linter.unusedVariables false

def mixM : List Nat := [2, 3, 1, 1, 1, 2, 3, 1, 1, 1, 2, 3, 3, 1, 1, 2]
def unmixM : List Nat := [14, 11, 13, 9, 9, 14, 11, 13, 13, 9, 14, 11, 11, 13, 9, 14]
def mix (c : List Nat) : List Nat := byRows mixM c
def unmix (c : List Nat) : List Nat := byRows unmixM c
theorem mixM_byt : Byt mixM := by unfold Byt mixM; decide
theorem unmixM_byt : Byt unmixM := by unfold Byt unmixM; decide
theorem mix_len (c : List Nat) : (mix c).length = 4 := byRows_len _ _
theorem unmix_len (c : List Nat) : (unmix c).length = 4 := byRows_len _ _
theorem mix_byt (c : List Nat) : Byt (mix c) := byRows_byt mixM_byt
theorem unmix_byt (c : List Nat) : Byt (unmix c) := byRows_byt unmixM_byt

end Go.Proofs.Ytobjdhpdljiijaa

namespace Go.Proofs.Ytobjdhpdljiijaa
open Go.RowKit
set_option linter.unusedVariables false

/-- the first row's numbers, turned on, are the matrix's -/
def Turned (first M : List Nat) : Prop := first.length = 4 ∧ ∀ i, i < 4 → ∀ k, k < 4 → first[(k + 4 - i) % 4]?.getD 0 = (rowOf M i)[k]?.getD 0 ∧ first[(k + 4 - i) % 4]?.getD 0 < 16
theorem turned_mix : Turned [2, 3, 1, 1] mixM := by unfold Turned; decide
theorem turned_unmix : Turned [14, 11, 13, 9] unmixM := by unfold Turned; decide

theorem set_zero {F : Nat → Nat} {i : Nat} (hi : i < 4) : (upd F [0, 0, 0, 0] i).set i 0 = upd F [0, 0, 0, 0] i := by
  apply List.ext_getElem (by simp)
  intro j h1 h2
  rw [List.getElem_set]
  split
  · rename_i hij
    subst hij
    have := upd_get F [0, 0, 0, 0] i i (by simpa using hi)
    rw [List.getElem?_eq_getElem h2] at this
    simp only [Option.getD_some, Nat.lt_irrefl, if_false] at this
    rw [this]
    match i, hi with
    | 0, _ => rfl
    | 1, _ => rfl
    | 2, _ => rfl
    | 3, _ => rfl
  · rfl
end Go.Proofs.Ytobjdhpdljiijaa

namespace Go.Proofs.Ytobjdhpdljiijaa
open Go.RowKit
set_option linter.unusedVariables false

def z16 : List Nat := [0, 0, 0, 0, 0, 0, 0, 0, 0, 0, 0, 0, 0, 0, 0, 0]
/-- behind some rounds: the state that is changed, the result's place -/
structure St16 (B : Nat) (t : TypeId) (w0 w : World) (l : List Nat) : Prop where
  cur : Bk w B t l
  res : Bk w (B + 1) t z16
  below : Below B w0 w
theorem St16.start (w : World) (t : TypeId) (s : List Nat) : St16 w.heap.size t w ((w.alloc (.cells (bts s) t)).alloc (.cells (bts z16) t)) s :=
  ⟨(Bk.newAt t s rfl).alloc _, Bk.newAt t z16 (by simp), ((Below.refl _ _).alloc (Nat.le_refl _) _).alloc (by simp) _⟩
theorem St16.set {B : Nat} {t : TypeId} {w0 w : World} {F : Nat → Nat} {s : List Nat} {k x : Nat} (h : St16 B t w0 w (upd F s k)) (hk : k < s.length) (hx : x = F k) :
    St16 B t w0 (w.drew.setCell ⟨B, k, none⟩ (.int .u8 (x : Int))) (upd F s (k + 1)) := by
  subst hx
  refine ⟨?_, h.res.drew.far (by omega) _, h.below.drew.setCell (Nat.le_refl _) _⟩
  have := h.cur.drew.set k (F k)
  rw [upd_step F s k hk] at this
  exact this
theorem upd_cell {F : Nat → Nat} {s : List Nat} {k : Nat} (hk : k < s.length) : (upd F s k)[k]?.getD 0 = s[k]?.getD 0 := by
  rw [upd_get F s k k hk, if_neg (Nat.lt_irrefl _)]

/-- a place in a state: its column and its row, as the walk asks them -/
theorem quarters (k : Nat) (hk : k < 16) : ∃ q p : Nat, k = q * 4 + p ∧ IntKind.i64.wrap ((k : Int) / 4) = (q : Int) ∧ (k : Int).tmod 4 = (p : Int) ∧ q < 4 ∧ p < 4 ∧ (q : Int) < 4 ∧ (p : Int) < 4 := by
  refine ⟨k / 4, k % 4, by omega, ?_, ?_, by omega, by omega, by omega, by omega⟩
  · rw [IntWalk.i64_in _ (by omega)]; omega
  · rw [Int.tmod_eq_emod_of_nonneg (by omega)]; omega

def addF (s W : List Nat) (o i : Nat) : Nat := s[i]?.getD 0 ^^^ W[o + i]?.getD 0
def addK (s W : List Nat) (o : Nat) : List Nat := (List.range 16).map (addF s W o)
theorem addK_len (s W : List Nat) (o : Nat) : (addK s W o).length = 16 := by simp [addK]
theorem addK_byt {s W : List Nat} (hs : Byt s) (hW : Byt W) (o : Nat) : Byt (addK s W o) := by
  intro x hx
  simp only [addK, List.mem_map, List.mem_range] at hx
  obtain ⟨i, _, rfl⟩ := hx
  exact xor_lt (hs.get i) (hW.get _)

/-! each -/
def eachF (T : Nat → Nat) (s : List Nat) (i : Nat) : Nat := T (s[i]?.getD 0)
def eachK (T : Nat → Nat) (s : List Nat) : List Nat := (List.range 16).map (eachF T s)
theorem eachK_len (T : Nat → Nat) (s : List Nat) : (eachK T s).length = 16 := by simp [eachK]
theorem eachK_byt {T : Nat → Nat} {s : List Nat} (hs : Byt s) (hT : ∀ x, x < 256 → T x < 256) : Byt (eachK T s) := by
  intro x hx
  simp only [eachK, List.mem_map, List.mem_range] at hx
  obtain ⟨i, _, rfl⟩ := hx
  exact hT _ (hs.get i)
/-- a table of 256 bytes at a place -/
def TabAt (w : World) (g o : Nat) (T : Nat → Nat) : Prop := g < w.heap.size ∧ ∀ x, x < 256 → w.cell? ⟨g, o + x, none⟩ = some (.int .u8 (T x : Nat))
theorem TabAt.below {w w' : World} {g o : Nat} {T : Nat → Nat} (h : TabAt w g o T) (hb : Below w.heap.size w w') : TabAt w' g o T :=
  ⟨Nat.lt_of_lt_of_le h.1 hb.size, fun x hx => (hb.cell (p := ⟨g, o + x, none⟩) h.1).trans (h.2 x hx)⟩

end Go.Proofs.Ytobjdhpdljiijaa

namespace Go.Proofs.Ytobjdhpdljiijaa
open Go.RowKit
set_option linter.unusedVariables false

def shiftF (by' : Nat) (s : List Nat) (i : Nat) : Nat := s[4 * ((i / 4 + by' * (i % 4)) % 4) + i % 4]?.getD 0
def shiftK (by' : Nat) (s : List Nat) : List Nat := (List.range 16).map (shiftF by' s)
theorem shiftK_len (b : Nat) (s : List Nat) : (shiftK b s).length = 16 := by simp [shiftK]
theorem shiftK_byt {b : Nat} {s : List Nat} (hs : Byt s) : Byt (shiftK b s) := by
  intro x hx
  simp only [shiftK, List.mem_map, List.mem_range] at hx
  obtain ⟨i, _, rfl⟩ := hx
  exact hs.get _
structure Sh16 (B : Nat) (t : TypeId) (w0 w : World) (s l : List Nat) : Prop where
  src : Bk w B t s
  cur : Bk w (B + 1 + 1) t l
  res : Bk w (B + 1) t z16
  below : Below B w0 w
theorem Sh16.start (w : World) (t : TypeId) (s : List Nat) : Sh16 w.heap.size t w (((w.alloc (.cells (bts s) t)).alloc (.cells (bts z16) t)).alloc (.cells (bts z16) t)) s z16 :=
  ⟨((Bk.newAt t s rfl).alloc _).alloc _, Bk.newAt t z16 (by simp), (Bk.newAt t z16 (by simp)).alloc _, (((Below.refl _ _).alloc (Nat.le_refl _) _).alloc (by simp) _).alloc (by simp; omega) _⟩
theorem Sh16.set {B : Nat} {t : TypeId} {w0 w : World} {F : Nat → Nat} {s : List Nat} {k x : Nat} (h : Sh16 B t w0 w s (upd F z16 k)) (hk : k < 16) (hx : x = F k) :
    Sh16 B t w0 (w.setCell ⟨B + 1 + 1, k, none⟩ (.int .u8 (x : Int))) s (upd F z16 (k + 1)) := by
  subst hx
  refine ⟨h.src.far (by omega) _, ?_, h.res.far (by omega) _, h.below.setCell (by show B ≤ B + 1 + 1; omega) _⟩
  have := h.cur.set k (F k)
  rw [upd_step F z16 k hk] at this
  exact this

end Go.Proofs.Ytobjdhpdljiijaa

namespace Go.Proofs.Ytobjdhpdljiijaa
open Go.RowKit
set_option linter.unusedVariables false

def colF (H : List Nat → List Nat) (s : List Nat) (i : Nat) : Nat := (H (rowOf s (i / 4)))[i % 4]?.getD 0
def colK (H : List Nat → List Nat) (s : List Nat) : List Nat := (List.range 16).map (colF H s)
theorem colK_len (H : List Nat → List Nat) (s : List Nat) : (colK H s).length = 16 := by simp [colK]
theorem colK_byt {H : List Nat → List Nat} {s : List Nat} (hH : ∀ c, Byt (H c)) : Byt (colK H s) := by
  intro x hx
  simp only [colK, List.mem_map, List.mem_range] at hx
  obtain ⟨i, _, rfl⟩ := hx
  exact (hH _).get _
theorem col_copy (H : List Nat → List Nat) (s : List Nat) (j : Nat) (hs : s.length = 16) (hj : j < 4) (hH : (H (rowOf s j)).length = 4) :
    (upd (colF H s) s (4 * j)).take (4 * j) ++ (H (rowOf s j) ++ (upd (colF H s) s (4 * j)).drop (4 * j + 4)) = upd (colF H s) s (4 * (j + 1)) := by
  apply List.ext_getElem (by simp [upd_len, hs, hH]; omega)
  intro i h1 h2
  have hi : i < 16 := by rw [upd_len, hs] at h2; exact h2
  have hR : (upd (colF H s) s (4 * (j + 1)))[i] = if i < 4 * (j + 1) then colF H s i else s[i]?.getD 0 := by
    have := upd_get (colF H s) s (4 * (j + 1)) i (by omega)
    rw [List.getElem?_eq_getElem h2] at this
    exact this
  have hU : ∀ (m : Nat) (hm : m < (upd (colF H s) s (4 * j)).length), (upd (colF H s) s (4 * j))[m] = if m < 4 * j then colF H s m else s[m]?.getD 0 := by
    intro m hm
    have := upd_get (colF H s) s (4 * j) m (by rw [upd_len] at hm; exact hm)
    rw [List.getElem?_eq_getElem hm] at this
    exact this
  rw [hR]
  have ht : ((upd (colF H s) s (4 * j)).take (4 * j)).length = 4 * j := by simp [upd_len, hs]; omega
  by_cases ha : i < 4 * j
  · rw [List.getElem_append_left (by omega), List.getElem_take, hU, if_pos ha, if_pos (by omega)]
  · rw [List.getElem_append_right (by omega)]
    by_cases hb : i < 4 * j + 4
    · rw [List.getElem_append_left (by omega), if_pos (by omega)]
      unfold colF
      rw [show i / 4 = j from by omega, List.getElem?_eq_getElem (by omega)]
      simp only [Option.getD_some]
      congr 1
      have ht' : ((upd (fun i => (H (rowOf s (i / 4)))[i % 4]?.getD 0) s (4 * j)).take (4 * j)).length = 4 * j := ht
      rw [ht']
      omega
    · rw [List.getElem_append_right (by omega), List.getElem_drop, hU, if_neg (by omega), if_neg (by omega)]
      congr 2
      rw [ht, hH]
      omega
theorem bts_splice (l c : List Nat) (k m : Nat) : ((bts l).toList.take k ++ (c.map (fun n : Nat => Value.int .u8 (n : Int)) ++ (bts l).toList.drop m)).toArray = bts (l.take k ++ (c ++ l.drop m)) := by
  simp [bts, List.map_take, List.map_drop]
theorem col_row (H : List Nat → List Nat) (s : List Nat) (j : Nat) (hs : s.length = 16) (hj : j < 4) (i : Nat) (v : Value) (hv : ((rowOf s j).map (fun n : Nat => Value.int .u8 (n : Int)))[i]? = some v) :
    i < 4 ∧ v = .int .u8 ((upd (colF H s) s (4 * j))[4 * j + i]?.getD 0 : Nat) := by
  rw [List.getElem?_map] at hv
  have hi : i < 4 := by
    have hl : (rowOf s j).length = 4 := by simp [rowOf, hs]; omega
    by_cases h : i < 4
    · exact h
    · rw [List.getElem?_eq_none (by omega)] at hv; simp at hv
  refine ⟨hi, ?_⟩
  rw [upd_get _ _ _ _ (by omega), if_neg (by omega)]
  simp only [rowOf, List.getElem?_take, if_pos hi, List.getElem?_drop] at hv
  rw [List.getElem?_eq_getElem (by omega)] at hv ⊢
  simpa using hv.symm
theorem St16.cols {B : Nat} {t : TypeId} {w0 w : World} {H : List Nat → List Nat} {s : List Nat} {j : Nat} (h : St16 B t w0 w (upd (colF H s) s (4 * j))) (hs : s.length = 16) (hj : j < 4) (hH : (H (rowOf s j)).length = 4) (cs : Array Value)
    (hc : cs = ((bts (upd (colF H s) s (4 * j))).toList.take (4 * j) ++ ((H (rowOf s j)).map (fun n : Nat => Value.int .u8 (n : Int)) ++ (bts (upd (colF H s) s (4 * j))).toList.drop (4 * j + 4))).toArray) :
    St16 B t w0 (w.setRow B cs) (upd (colF H s) s (4 * (j + 1))) := by
  rw [bts_splice, col_copy H s j hs hj hH] at hc
  subst hc
  exact ⟨h.cur.row _, h.res.rowFar (by omega) _, Below.row h.below (Nat.le_refl _) _⟩
theorem szByte : (Try.prog.info? 5).map (·.size) = some 1 := by kernel_rfl
end Go.Proofs.Ytobjdhpdljiijaa

namespace Go.Proofs.Ytobjdhpdljiijaa
open Go.RowKit
set_option linter.unusedVariables false

def at' (l : List Nat) (i : Nat) : Nat := l[i]?.getD 0
/-- what is laid over the word k back -/
def nx (k : Nat) (E : List Nat) (i : Nat) : List Nat :=
  if i % k = 0 then [sbox (at' E (4 * (i - 1) + 1)) ^^^ gpow 2 (i / k - 1), sbox (at' E (4 * (i - 1) + 2)), sbox (at' E (4 * (i - 1) + 3)), sbox (at' E (4 * (i - 1)))]
  else if k = 8 ∧ i % 8 = 4 then [sbox (at' E (4 * (i - 1))), sbox (at' E (4 * (i - 1) + 1)), sbox (at' E (4 * (i - 1) + 2)), sbox (at' E (4 * (i - 1) + 3))]
  else [at' E (4 * (i - 1)), at' E (4 * (i - 1) + 1), at' E (4 * (i - 1) + 2), at' E (4 * (i - 1) + 3)]
theorem nx_len (k : Nat) (E : List Nat) (i : Nat) : (nx k E i).length = 4 := by unfold nx; split <;> (try split) <;> rfl
def nextWord (k : Nat) (E : List Nat) (i : Nat) : List Nat := (List.range 4).map fun p => at' (nx k E i) p ^^^ at' E (4 * (i - k) + p)
/-- so many words behind the key's own -/
def wordsOf (k : Nat) (key : List Nat) : Nat → List Nat
  | 0 => key
  | n + 1 => wordsOf k key n ++ nextWord k (wordsOf k key n) (k + n)
/-- all words of a key of k words -/
def wordsAll (k : Nat) (key : List Nat) : List Nat := wordsOf k key (4 * (k + 7) - k)
theorem wordsOf_len (k : Nat) (key : List Nat) (h : key.length = 4 * k) : ∀ n, (wordsOf k key n).length = 4 * (k + n)
  | 0 => by simp [wordsOf, h]
  | n + 1 => by simp [wordsOf, wordsOf_len k key h n, nextWord]; omega
theorem wordsOf_pre (k : Nat) (key : List Nat) (h : key.length = 4 * k) (m : Nat) : ∀ n j, m < 4 * (k + n) → at' (wordsOf k key (n + j)) m = at' (wordsOf k key n) m
  | n, 0, _ => rfl
  | n, j + 1, hm => by
    have ih := wordsOf_pre k key h m n j hm
    rw [← ih]
    show at' (wordsOf k key (n + j) ++ _) m = _
    unfold at'
    rw [List.getElem?_append_left (by rw [wordsOf_len k key h]; omega)]
structure Exp (k : Nat) (key E : List Nat) : Prop where
  len : E.length = 4 * (4 * (k + 7))
  byt : Byt E
  own : ∀ m, m < 4 * k → at' E m = at' key m
  next : ∀ i, k ≤ i → i < 4 * (k + 7) → ∀ p, p < 4 → at' E (4 * i + p) = at' (nx k E i) p ^^^ at' E (4 * (i - k) + p)
theorem nx_eq (k : Nat) (E F : List Nat) (i : Nat) (h : ∀ m, m < 4 * i → at' E m = at' F m) (hi : 0 < i) : nx k E i = nx k F i := by
  unfold nx
  rw [h _ (by omega), h _ (by omega), h _ (by omega), h _ (by omega)]
theorem gpow_byt {n : Nat} (h : n < 16) : gpow 2 n < 256 := gpow_lt n h
theorem Byt.at' {l : List Nat} (h : Byt l) (k : Nat) : at' l k < 256 := h.get k
theorem nx_byt {k : Nat} {E : List Nat} {i : Nat} (hE : Byt E) (hk : k = 4 ∨ k = 8) (hi : i < 4 * (k + 7)) : Byt (nx k E i) := by
  have s := fun m => sbox_lt _ (hE.at' m)
  have h16 : i / k - 1 < 16 := by rcases hk with rfl | rfl <;> omega
  intro x hx
  unfold nx at hx
  split at hx
  · simp only [List.mem_cons, List.not_mem_nil, or_false] at hx
    rcases hx with rfl | rfl | rfl | rfl
    · exact xor_lt (s _) (gpow_byt h16)
    all_goals exact s _
  · split at hx
    · simp only [List.mem_cons, List.not_mem_nil, or_false] at hx
      rcases hx with rfl | rfl | rfl | rfl <;> exact s _
    · simp only [List.mem_cons, List.not_mem_nil, or_false] at hx
      rcases hx with rfl | rfl | rfl | rfl <;> exact hE.at' _
theorem wordsOf_byt {k : Nat} {key : List Nat} (hk : k = 4 ∨ k = 8) (hb : Byt key) : ∀ n, k + n ≤ 4 * (k + 7) → Byt (wordsOf k key n)
  | 0, _ => hb
  | n + 1, hn => by
    have ih := wordsOf_byt hk hb n (by omega)
    intro x hx
    rcases List.mem_append.1 hx with hx | hx
    · exact ih x hx
    · simp only [nextWord, List.mem_map, List.mem_range] at hx
      obtain ⟨p, _, rfl⟩ := hx
      exact xor_lt ((nx_byt ih hk (by omega)).at' p) (ih.at' _)
theorem wordsAll_exp {k : Nat} {key : List Nat} (hk : k = 4 ∨ k = 8) (h : key.length = 4 * k) (hb : Byt key) : Exp k key (wordsAll k key) := by
  have hk1 : 0 < k := by omega
  refine ⟨by rw [wordsAll, wordsOf_len k key h]; omega, wordsOf_byt hk hb _ (by omega), ?_, ?_⟩
  · intro m hm
    have := wordsOf_pre k key h m 0 (4 * (k + 7) - k) (by omega)
    rw [Nat.zero_add] at this
    exact this
  · intro i h0 h1 p hp
    have e1 : ∀ m, m < 4 * i → at' (wordsAll k key) m = at' (wordsOf k key (i - k)) m := by
      intro m hm
      have := wordsOf_pre k key h m (i - k) (4 * (k + 7) - k - (i - k)) (by omega)
      rw [show i - k + (4 * (k + 7) - k - (i - k)) = 4 * (k + 7) - k from by omega] at this
      exact this
    have e2 : at' (wordsAll k key) (4 * i + p) = at' (wordsOf k key (i - k + 1)) (4 * i + p) := by
      have := wordsOf_pre k key h (4 * i + p) (i - k + 1) (4 * (k + 7) - k - (i - k + 1)) (by omega)
      rw [show i - k + 1 + (4 * (k + 7) - k - (i - k + 1)) = 4 * (k + 7) - k from by omega] at this
      exact this
    rw [e2, nx_eq k _ _ i e1 (by omega), e1 _ (by omega)]
    have hl := wordsOf_len k key h (i - k)
    show at' (wordsOf k key (i - k) ++ nextWord k (wordsOf k key (i - k)) (k + (i - k))) (4 * i + p) = _
    rw [show k + (i - k) = i from by omega]
    generalize wordsOf k key (i - k) = F at hl
    have : at' (F ++ nextWord k F i) (4 * i + p) = at' (nextWord k F i) p := by
      unfold at'
      rw [List.getElem?_append_right (by omega), show 4 * i + p - F.length = p from by omega]
    rw [this]
    simp [nextWord, at', hp]

/-! memory -/
theorem bts_at (l : List Nat) (o : Nat) (c : List Nat) (h : o + c.length ≤ l.length) (hc : ∀ i, i < c.length → at' c i = at' l (o + i)) :
    ∀ (i : Nat) (v : Value), (c.map (fun n : Nat => Value.int .u8 (n : Int)))[i]? = some v → i < c.length ∧ v = .int .u8 (l[o + i]?.getD 0 : Nat) := by
  intro i v hv
  rw [List.getElem?_map] at hv
  cases hi : c[i]? with
  | none => rw [hi] at hv; simp at hv
  | some x =>
    rw [hi] at hv
    have hlt := (List.getElem?_eq_some_iff.1 hi).1
    have := hc i hlt
    unfold at' at this
    rw [hi] at this
    simp only [Option.getD_some] at this
    simp at hv
    exact ⟨hlt, by rw [← this]; exact hv.symm⟩
/-- a slice of bytes that came in -/
def IsB (w : World) (A : Option Addr) (n c : Nat) (l : List Nat) : Prop := IsRow .u8 w A n c (l.map fun x : Nat => (x : Int)) ∧ Byt l
theorem IsB.len {w : World} {A : Option Addr} {n c : Nat} {l : List Nat} (h : IsB w A n c l) : l.length = n := by simpa using h.1.len
theorem IsB.cell {w : World} {A : Option Addr} {n c : Nat} {l : List Nat} (h : IsB w A n c l) (hn : 0 < n) : ∃ x, A = some x ∧ x.block < w.heap.size ∧ ∀ i, i < n → w.cell? (x.add i) = some (.int .u8 (at' l i : Nat)) := by
  obtain ⟨x, e, hb, hx⟩ := h.1.at hn
  refine ⟨x, e, hb, fun i hi => ?_⟩
  have hl := h.len
  rw [hx i hi]
  simp [List.getD, at', List.getElem?_eq_getElem (show i < l.length by omega)]
theorem IsB.below {w w' : World} {A : Option Addr} {n c : Nat} {l : List Nat} (h : IsB w A n c l) (hb : Below w.heap.size w w') : IsB w' A n c l := ⟨h.1.below hb, h.2⟩
theorem byt_of_row {w : World} {A : Option Addr} {n c : Nat} {zs : List Int} (h : IsRow .u8 w A n c zs) : ∃ l : List Nat, zs = l.map (fun x : Nat => (x : Int)) ∧ Byt l := by
  have hw : ∀ z ∈ zs, 0 ≤ z ∧ z < 256 := by
    intro z hz
    have := h.wf z hz
    simp only [Lit.wf, Bool.and_eq_true, decide_eq_true_eq] at this
    have e1 : IntKind.u8.min = 0 := rfl
    have e2 : IntKind.u8.max = 255 := rfl
    omega
  refine ⟨zs.map Int.toNat, ?_, ?_⟩
  · rw [List.map_map]
    refine (List.map_id' _).symm.trans (List.map_congr_left fun z hz => ?_)
    simp only [Function.comp]
    have := hw z hz
    omega
  · intro x hx
    obtain ⟨z, hz, rfl⟩ := List.mem_map.1 hx
    have := hw z hz
    omega

section
variable {P : Program}
/-- the variable of an array's type that lies at any address is read -/
theorem wp_loadAny {op : Oper} {a : Act} {w : World} {K : Act → World → Prop} {Q : Exit → Act → World → Prop} (ty : TypeId) (x : Operand) (ho : op.op = .load ty x)
    (p : Addr) (hx : a.eval x = .pointer (some p)) (cs : List Value) (d : TypeDesc) (hc : ∀ j v, cs[j]? = some v → w.cell? (p.add j) = some v)
    (hu : P.underlying ty = some d) (hd : d.isRow = true) (hi : (P.info? ty).map (·.size) = some cs.length)
    (h : K (a.put op.dst (.agg cs.toArray)) w) : op.wp P a w K Q := by
  have hrun : (loadVar ty p).run P w = .ok (.agg cs.toArray) w := by
    have hl : (loadCells p cs.length).run P w = .ok cs.toArray w := run_loadCells_list (P := P) w p cs hc
    cases hq : P.info? ty with
    | none => simp [hq] at hi
    | some i =>
      have hs : i.size = cs.length := by simpa [hq] using hi
      have hagg : (isAgg ty).run P w = .ok true w := by
        unfold isAgg
        rw [Sem.run_bind, run_underlying hu w]
        cases d <;> simp_all
      simp [loadVar, Sem.run_bind, hagg, sizeOf, typeInfo, hq, hs, hl]
  unfold Oper.wp execOp
  simp only [ho, hx, Instr.loadAt, Instr.sureAddr, Sem.run_bind, Sem.run_pure, Result.andThen_ok, hrun]
  exact h
theorem wpList_loadAny {ops : Array Oper} {rest : List Oper} {op : Oper} {a : Act} {w : World} {Q : Exit → Act → World → Prop} (hgd : op.guard = none) (ty : TypeId) (x : Operand) (ho : op.op = .load ty x)
    (p : Addr) (hx : a.eval x = .pointer (some p)) (cs : List Value) (d : TypeDesc) (hc : ∀ j v, cs[j]? = some v → w.cell? (p.add j) = some v)
    (hu : P.underlying ty = some d) (hd : d.isRow = true) (hi : (P.info? ty).map (·.size) = some cs.length)
    (h : wpList P ops Q rest (a.put op.dst (.agg cs.toArray)) w) : wpList P ops Q (op :: rest) a w :=
  wpList_plain hgd fun _ hK => wp_loadAny ty x ho p hx cs d hc hu hd hi (hK _ _ h)
end

/-- laid over, from a place on -/
theorem setCells_bk (w : World) (b : Nat) (t : TypeId) : ∀ (c : List Nat) (o : Nat) (l : List Nat) (w : World), Bk w b t l → Bk (w.setCells b o (c.map (fun n : Nat => Value.int .u8 (n : Int)))) b t (c.zipIdx.foldl (fun l p => l.set (o + p.2) p.1) l)
  | [], o, l, w, h => h
  | x :: r, o, l, w, h => by
    have := setCells_bk w b t r (o + 1) (l.set o x) _ (h.set o x)
    rw [List.map_cons, World.setCells]
    have e : (x :: r).zipIdx.foldl (fun l p => l.set (o + p.2) p.1) l = r.zipIdx.foldl (fun l p => l.set (o + 1 + p.2) p.1) (l.set o x) := by
      rw [List.zipIdx_cons, List.foldl_cons, Nat.zero_add, List.zipIdx_succ, List.foldl_map]
      congr 1
      funext l p
      rw [Nat.add_assoc, Nat.add_comm 1 p.2]
    rw [e]
    exact this
theorem setCells_upd (w : World) (b : Nat) (t : TypeId) (f : Nat → Nat) (s : List Nat) : ∀ (c : List Nat) (o : Nat) (w : World), Bk w b t (upd f s o) → o + c.length ≤ s.length → (∀ i, i < c.length → at' c i = f (o + i)) →
    Bk (w.setCells b o (c.map (fun n : Nat => Value.int .u8 (n : Int)))) b t (upd f s (o + c.length))
  | [], o, w, h, _, _ => h
  | x :: r, o, w, h, hl, hc => by
    rw [List.map_cons, World.setCells]
    have hx : x = f o := hc 0 (by simp)
    subst hx
    have h1 := h.set o (f o)
    rw [upd_step f s o (by simp at hl; omega)] at h1
    have := setCells_upd w b t f s r (o + 1) _ h1 (by simp at hl; omega) (fun i hi => by have := hc (i + 1) (by simp; omega); rw [show o + 1 + i = o + (i + 1) from by omega, ← this]; simp [at'])
    rw [show o + (f o :: r).length = o + 1 + r.length from by simp; omega]
    exact this
theorem below_setCells {B b : Nat} {w0 : World} (hb : B ≤ b) : ∀ (vs : List Value) (o : Nat) (w : World), Below B w0 w → Below B w0 (w.setCells b o vs)
  | [], o, w, h => h
  | v :: r, o, w, h => below_setCells hb r (o + 1) _ (h.setCell hb v)

end Go.Proofs.Ytobjdhpdljiijaa
