/-
  Twice OF THE REFERENCE's LIST: the walk.
-/
import Derived.Test.YtmeakfocppooiaaTwB
import Derived.BigQuiet
namespace Go.Proofs.Ytmeakfocppooiaa
open Go.RowKit
set_option linter.unusedVariables false

def othT (s t : Sl) : Bool := decide (nonS t = nonS s) && !decide (resS t = resS s)
theorem othr_def (pre : List Sl) (s : Sl) : othr pre s = pre.any (othT s) := rfl
theorem othT_far {s t : Sl} (h : nonS t ≠ nonS s) : othT s t = false := by unfold othT; rw [decide_eq_false h, Bool.false_and]
theorem othT_near {s t : Sl} (h : nonS t = nonS s) : othT s t = !(decide (t.l = s.l) && (decide (t.key = s.key) && decide (t.pay = s.pay))) := by
  unfold othT
  rw [decide_eq_true h, Bool.true_and, ← Bool.decide_and, ← Bool.decide_and]
  congr 1
  rw [decide_eq_decide]
  simp [resS]
theorem any_snoc (l : List Sl) (s t : Sl) : (l ++ [t]).any (othT s) = (l.any (othT s) || othT s t) := by rw [List.any_append]; simp
theorem quiet_same3 {P : Program} {f : FuncId} {args : Array Value} {W : World} {v : Value} {S : World → Prop} (h : Calls P f args W fun e w' => e = .returned v ∧ W = w') (hW : S W) : Calls P f args W fun e w'' => e = .returned v ∧ S w'' :=
  h.mono fun _ _ ⟨he, hm⟩ => ⟨he, hm ▸ hW⟩
theorem beq_nat {a b : Nat} (h : a = b) : (((a : Nat) : Int) != ((b : Nat) : Int)) = false := by subst h; simp
theorem bne_nat {a b : Nat} (h : a ≠ b) : (((a : Nat) : Int) != ((b : Nat) : Int)) = true := by rw [bne_iff_ne]; omega
set_option maxRecDepth 100000 in
set_option maxHeartbeats 8000000 in
theorem rtwice_any (B : Nat) (v : Value) (all : List Rs) (w : World) (h : RlB w B v all) (hl : all.length ≤ 1000) :
    Calls Try.prog 25 #[v] w fun e w' => ∃ v, e = .returned v ∧ LsB w' w.heap.size v (twR [] (all.map (·.s))) ∧ Below w.heap.size w w' := by
  have H0 := Lib.hid h
  obtain ⟨A0, c0, rfl⟩ := row_shape h.own
  obtain ⟨k, hk⟩ : ∃ k, k = all.length := ⟨_, rfl⟩
  have HN := Lib.hid hk
  have hkb : (k : Int) ≤ 1000 := by omega
  have HL : Hid (k ≤ 1000) := Lib.hid (by omega)
  rw [← hk] at H0 ⊢
  clear h hl hk
  go_enter Try.func25, Try.ntmps25
  go_wp2_with fail
  go_loopw [4, 3] (fun z v wr => ∃ i : Nat, i ≤ k ∧ z = .int .i64 (i : Int) ∧ LsB wr w.heap.size v (twR [] ((all.map (·.s)).take i)) ∧ Below w.heap.size w wr) (fun z _ _ => k - (intOf z).toNat)
  case atStart => exact ⟨0, Nat.zero_le _, rfl, World.ownsRow_nil _ _ _ _, Below.refl _ _⟩
  case round =>
    obtain ⟨i, hi, rfl, hv, hb⟩ := hrel
    have V0 := Lib.hid hv
    have HB := Lib.hid hb
    clear hv hb
    by_cases hlt : i < k
    · obtain ⟨p, hp⟩ : ∃ p, all[i]? = some p := ⟨_, List.getElem?_eq_getElem (by rw [← HN.out]; exact hlt)⟩
      obtain ⟨gb, cap, he, hgl, hcell⟩ := H0.out.form hp
      injection he with he1 he2 he3
      subst he1 he3
      clear he2
      have hlti : (i : Int) < (k : Int) := by omega
      have HLT := Lib.hid hlt
      have TK : Hid ((all.map (·.s)).take (i + 1) = (all.map (·.s)).take i ++ [p.s]) := Lib.hid (by rw [List.take_add_one, List.getElem?_map, hp]; rfl)
      have LN : Hid ((twR [] ((all.map (·.s)).take i)).length ≤ 1000) := Lib.hid (by
        have h1 := twR_len ((all.map (·.s)).take i) []
        have h2 := HL.out
        rw [List.length_take] at h1
        omega)
      have SZ : Hid (w.heap.size ≤ wr.heap.size) := Lib.hid HB.out.size
      have GL := Lib.hid (Nat.lt_of_lt_of_le hgl HB.out.size)
      have KP : Hid (∀ j u, (rsv p)[j]? = some u → wr.cell? ⟨gb, i * 9 + j, none⟩ = some u) := Lib.hid fun j u hu => (World.cell?_of_block (HB.out.block _ hgl)).trans (hcell j u hu)
      obtain ⟨vk, vp, vb⟩ := H0.out.vals p (List.mem_of_getElem? hp)
      obtain ⟨Ak, ck, hkv, _, _⟩ := vk.shape
      obtain ⟨Ap, cp, hpv, _, _⟩ := vp.shape
      have PK := Lib.hid ((show OwB wr B (.slice Ak p.s.key.length ck) p.s.key from hkv ▸ vk.ab HB.out).isB rfl)
      have PP := Lib.hid ((show OwB wr B (.slice Ap p.s.pay.length cp) p.s.pay from hpv ▸ vp.ab HB.out).isB rfl)
      clear hcell hgl hlt hp hi vk vp vb
      generalize wr = wo at *
      go_wp2_with fail
      go_loopw [6, 5] (fun z u wx => ∃ j : Nat, j ≤ i ∧ z = .int .i64 (j : Int) ∧ u = .bool (((all.map (·.s)).take j).any (othT p.s)) ∧ Below wo.heap.size wo wx) (fun z _ _ => i - (intOf z).toNat)
      case atStart => exact ⟨0, Nat.zero_le _, rfl, rfl, Below.refl _ _⟩
      case round =>
        obtain ⟨j, hj, rfl, rfl, hbx⟩ := hrel
        have HX := Lib.hid hbx
        clear hbx
        by_cases hjl : j < i
        · obtain ⟨q, hq⟩ : ∃ q, all[j]? = some q := ⟨_, List.getElem?_eq_getElem (by rw [← HN.out]; have := HLT.out; omega)⟩
          obtain ⟨gb', cap', he, hgl, hcell⟩ := H0.out.form hq
          injection he with he1 he2 he3
          clear he2
          injection he1 with he1
          injection he1 with he1
          subst he1 he3
          have hjlt : (j : Int) < (i : Int) := by omega
          have hjk : (j : Int) < (k : Int) := by have := HLT.out; omega
          have HJ := Lib.hid hjl
          have QK : Hid ((all.map (·.s)).take (j + 1) = (all.map (·.s)).take j ++ [q.s]) := Lib.hid (by rw [List.take_add_one, List.getElem?_map, hq]; rfl)
          have kq : ∀ m u, (rsv q)[m]? = some u → wr.cell? ⟨gb, j * 9 + m, none⟩ = some u := fun m u hu => (World.cell?_of_block ((HX.out.block _ GL.out).trans (HB.out.block _ hgl))).trans (hcell m u hu)
          have kp : ∀ m u, (rsv p)[m]? = some u → wr.cell? ⟨gb, i * 9 + m, none⟩ = some u := fun m u hu => (World.cell?_of_block (HX.out.block _ GL.out)).trans (KP.out m u hu)
          obtain ⟨vk, vp, vb⟩ := H0.out.vals q (List.mem_of_getElem? hq)
          obtain ⟨Bk, dk, hkw, _, _⟩ := vk.shape
          obtain ⟨Bp, dp, hpw, _, _⟩ := vp.shape
          have QA := Lib.hid ((show OwB wr B (.slice Bk q.s.key.length dk) q.s.key from hkw ▸ (vk.ab HB.out).ab HX.out).isB rfl)
          have QP := Lib.hid ((show OwB wr B (.slice Bp q.s.pay.length dp) q.s.pay from hpw ▸ (vp.ab HB.out).ab HX.out).isB rfl)
          have RK := Lib.hid (PK.out.ab HX.out)
          have RP := Lib.hid (PP.out.ab HX.out)
          have q0 : wr.cell? ⟨gb, j * 9 + 0, none⟩ = some (q.kv) := kq 0 _ rfl
          have q1 : wr.cell? ⟨gb, j * 9 + 1, none⟩ = some (.int .u32 (q.s.l.ten : Int)) := kq 1 _ rfl
          have q2 : wr.cell? ⟨gb, j * 9 + 2, none⟩ = some (.int .u8 (q.s.l.k : Int)) := kq 2 _ rfl
          have q3 : wr.cell? ⟨gb, j * 9 + 3, none⟩ = some (.int .u8 (q.s.l.lv : Int)) := kq 3 _ rfl
          have q4 : wr.cell? ⟨gb, j * 9 + 4, none⟩ = some (.int .u32 (q.s.l.pg : Int)) := kq 4 _ rfl
          have q5 : wr.cell? ⟨gb, j * 9 + 5, none⟩ = some (.int .u64 (q.s.l.cm : Int)) := kq 5 _ rfl
          have q6 : wr.cell? ⟨gb, j * 9 + 6, none⟩ = some (.int .u16 (q.s.l.gn : Int)) := kq 6 _ rfl
          have q7 : wr.cell? ⟨gb, j * 9 + 7, none⟩ = some (q.pv) := kq 7 _ rfl
          have p0 : wr.cell? ⟨gb, i * 9 + 0, none⟩ = some (p.kv) := kp 0 _ rfl
          have p1 : wr.cell? ⟨gb, i * 9 + 1, none⟩ = some (.int .u32 (p.s.l.ten : Int)) := kp 1 _ rfl
          have p2 : wr.cell? ⟨gb, i * 9 + 2, none⟩ = some (.int .u8 (p.s.l.k : Int)) := kp 2 _ rfl
          have p3 : wr.cell? ⟨gb, i * 9 + 3, none⟩ = some (.int .u8 (p.s.l.lv : Int)) := kp 3 _ rfl
          have p4 : wr.cell? ⟨gb, i * 9 + 4, none⟩ = some (.int .u32 (p.s.l.pg : Int)) := kp 4 _ rfl
          have p5 : wr.cell? ⟨gb, i * 9 + 5, none⟩ = some (.int .u64 (p.s.l.cm : Int)) := kp 5 _ rfl
          have p6 : wr.cell? ⟨gb, i * 9 + 6, none⟩ = some (.int .u16 (p.s.l.gn : Int)) := kp 6 _ rfl
          have p7 : wr.cell? ⟨gb, i * 9 + 7, none⟩ = some (p.pv) := kp 7 _ rfl
          rw [Nat.add_zero] at q0 p0
          rw [hkw] at q0
          rw [hpw] at q7
          rw [hkv] at p0
          rw [hpv] at p7
          have hyes : Hid (othT p.s q.s = true → ((all.map (·.s)).take (j + 1)).any (othT p.s) = true) := Lib.hid fun h => by rw [QK.out, any_snoc, h, Bool.or_true]
          have hno : Hid (othT p.s q.s = false → ((all.map (·.s)).take (j + 1)).any (othT p.s) = ((all.map (·.s)).take j).any (othT p.s)) := Lib.hid fun h => by rw [QK.out, any_snoc, h, Bool.or_false]
          clear kq kp hcell hgl hjl hq hj vk vp vb
          by_cases hpg : q.s.l.pg = p.s.l.pg
          · by_cases hcm : q.s.l.cm = p.s.l.cm
            · have hnear := othT_near (s := p.s) (t := q.s) (by unfold nonS; rw [hpg, hcm])
              have b1 := beq_nat hpg
              have b2 := beq_nat hcm
              have hql := fun W => eq_lab q.s.l p.s.l W
              have SK := Lib.hid fun W h1 h2 => same_any Bk Ak q.s.key.length p.s.key.length dk ck q.s.key p.s.key W h1 h2
              have SP := Lib.hid fun W h1 h2 => same_any Bp Ap q.s.pay.length p.s.pay.length dp cp q.s.pay p.s.pay W h1 h2
              clear hpg hcm
              generalize decide (q.s.l = p.s.l) = bl at *
              generalize decide (q.s.key = p.s.key) = bk at *
              generalize decide (q.s.pay = p.s.pay) = bp at *
              cases bl
              · have hf := Lib.hid (hyes.out hnear)
                clear hyes hno hnear
                go_wp2_with fail
                go_quiet (fail)
                go_wp2_with fail
                go_quiet ((go_at_call 18; first | (refine quiet_same3 (SK.out _ (QA.out.drewN _) (RK.out.drewN _)) ?_; exact ⟨_, rfl⟩) | (refine quiet_same3 (SP.out _ (QP.out.drewN _) (RP.out.drewN _)) ?_; exact ⟨_, rfl⟩)))
                go_wp2_with fail
                go_roundw
                case rel => exact ⟨j + 1, HJ.out, by go_num, by rw [hf.out], below_dn HX.out _⟩
                case measure => simp [intOf]; have := HJ.out; omega
              · cases bk
                · have hf := Lib.hid (hyes.out hnear)
                  clear hyes hno hnear
                  go_wp2_with fail
                  go_quiet (fail)
                  go_wp2_with fail
                  go_quiet ((go_at_call 18; first | (refine quiet_same3 (SK.out _ (QA.out.drewN _) (RK.out.drewN _)) ?_; exact ⟨_, rfl⟩) | (refine quiet_same3 (SP.out _ (QP.out.drewN _) (RP.out.drewN _)) ?_; exact ⟨_, rfl⟩)))
                  go_wp2_with fail
                  go_roundw
                  case rel => exact ⟨j + 1, HJ.out, by go_num, by rw [hf.out], below_dn HX.out _⟩
                  case measure => simp [intOf]; have := HJ.out; omega
                · cases bp
                  · have hf := Lib.hid (hyes.out hnear)
                    clear hyes hno hnear
                    go_wp2_with fail
                    go_quiet (fail)
                    go_wp2_with fail
                    go_quiet ((go_at_call 18; first | (refine quiet_same3 (SK.out _ (QA.out.drewN _) (RK.out.drewN _)) ?_; exact ⟨_, rfl⟩) | (refine quiet_same3 (SP.out _ (QP.out.drewN _) (RP.out.drewN _)) ?_; exact ⟨_, rfl⟩)))
                    go_wp2_with fail
                    go_roundw
                    case rel => exact ⟨j + 1, HJ.out, by go_num, by rw [hf.out], below_dn HX.out _⟩
                    case measure => simp [intOf]; have := HJ.out; omega
                  · have hf := Lib.hid (hno.out hnear)
                    clear hyes hno hnear
                    go_wp2_with fail
                    go_quiet (fail)
                    go_wp2_with fail
                    go_quiet ((go_at_call 18; first | (refine quiet_same3 (SK.out _ (QA.out.drewN _) (RK.out.drewN _)) ?_; exact ⟨_, rfl⟩) | (refine quiet_same3 (SP.out _ (QP.out.drewN _) (RP.out.drewN _)) ?_; exact ⟨_, rfl⟩)))
                    go_wp2_with fail
                    go_roundw
                    case rel => exact ⟨j + 1, HJ.out, by go_num, by rw [hf.out], below_dn HX.out _⟩
                    case measure => simp [intOf]; have := HJ.out; omega
            · have hf : Hid (((all.map (·.s)).take (j + 1)).any (othT p.s) = ((all.map (·.s)).take j).any (othT p.s)) := Lib.hid (hno.out (othT_far fun e => hcm (congrArg Prod.snd e)))
              have b1 := beq_nat hpg
              have b2 := bne_nat hcm
              clear hyes hno hpg hcm
              go_wp2_with fail
              go_quiet (fail)
              go_wp2_with fail
              go_roundw
              case rel => exact ⟨j + 1, HJ.out, by go_num, by rw [hf.out], below_dn HX.out _⟩
              case measure => simp [intOf]; have := HJ.out; omega
          · have hf : Hid (((all.map (·.s)).take (j + 1)).any (othT p.s) = ((all.map (·.s)).take j).any (othT p.s)) := Lib.hid (hno.out (othT_far fun e => hpg (congrArg Prod.fst e)))
            have b1 := bne_nat hpg
            clear hyes hno hpg
            go_wp2_with fail
            go_quiet (fail)
            go_wp2_with fail
            go_roundw
            case rel => exact ⟨j + 1, HJ.out, by go_num, by rw [hf.out], below_dn HX.out _⟩
            case measure => simp [intOf]; have := HJ.out; omega
        · obtain rfl : j = i := by omega
          have HOT := Lib.hid (othr_def ((all.map (·.s)).take j) p.s)
          have TW : Hid (twR [] ((all.map (·.s)).take (j + 1)) = twR [] ((all.map (·.s)).take j) ++ (bif othr ((all.map (·.s)).take j) p.s then [p.s.l] else [])) := Lib.hid (by rw [TK.out, twR_snoc, List.nil_append])
          rw [← HOT.out]
          have kp : ∀ m u, (rsv p)[m]? = some u → wr.cell? ⟨gb, j * 9 + m, none⟩ = some u := fun m u hu => (World.cell?_of_block (HX.out.block _ GL.out)).trans (KP.out m u hu)
          have p1 : wr.cell? ⟨gb, j * 9 + 1, none⟩ = some (.int .u32 (p.s.l.ten : Int)) := kp 1 _ rfl
          have p2 : wr.cell? ⟨gb, j * 9 + 2, none⟩ = some (.int .u8 (p.s.l.k : Int)) := kp 2 _ rfl
          have p3 : wr.cell? ⟨gb, j * 9 + 3, none⟩ = some (.int .u8 (p.s.l.lv : Int)) := kp 3 _ rfl
          have p4 : wr.cell? ⟨gb, j * 9 + 4, none⟩ = some (.int .u32 (p.s.l.pg : Int)) := kp 4 _ rfl
          have p5 : wr.cell? ⟨gb, j * 9 + 5, none⟩ = some (.int .u64 (p.s.l.cm : Int)) := kp 5 _ rfl
          have p6 : wr.cell? ⟨gb, j * 9 + 6, none⟩ = some (.int .u16 (p.s.l.gn : Int)) := kp 6 _ rfl
          have VX := Lib.hid (V0.out.ab HX.out)
          have BX := Lib.hid (below_tr HB.out HX.out HB.out.size)
          have SX : Hid (w.heap.size ≤ wr.heap.size) := Lib.hid (Nat.le_trans SZ.out HX.out.size)
          clear kp hjl hj
          cases hot : othr ((all.map (·.s)).take j) p.s
          · rw [hot] at TW
            clear hot
            go_wp2_with fail
            go_roundw
            case rel =>
              first
                | exact ⟨j + 1, HLT.out, by go_num, by rw [TW.out, cond_false, List.append_nil]; exact VX.out, BX.out⟩
                | (repeat apply Exists.intro); exact ⟨⟨j + 1, HLT.out, by go_num, by rw [TW.out, cond_false, List.append_nil]; exact VX.out, BX.out⟩, rfl⟩
            case measure => simp [intOf]; have := HLT.out; omega
          · rw [hot] at TW
            clear hot
            go_wp2_with (first
              | (refine wpList_appL rfl (.tmp 90) (.tmp 96) rfl (VX.out.ab ((Below.refl _ _).alloc (Nat.le_refl _) _)) rfl p.s.l rfl (CbB.new _ _ _) LN.out (Nat.le_trans SX.out (by simp)) ?_
                 intro v6 w6 hv6 hg6
                 have V6 := Lib.hid hv6
                 have B6 := Lib.hid (below_grownO (below_tr BX.out ((Below.refl _ _).alloc (Nat.le_refl _) _) SX.out) hg6 (own_ge9 VX.out) (Nat.le_trans SX.out (by simp)))
                 clear hv6 hg6))
            go_roundw
            case rel =>
              first
                | exact ⟨j + 1, HLT.out, by go_num, by rw [TW.out]; exact V6.out, B6.out⟩
                | (repeat apply Exists.intro); exact ⟨⟨j + 1, HLT.out, by go_num, by rw [TW.out]; exact V6.out, B6.out⟩, rfl⟩
            case measure => simp [intOf]; have := HLT.out; omega
    · obtain rfl : i = k := by omega
      have HT : Hid ((all.map (·.s)).take i = all.map (·.s)) := Lib.hid (by rw [HN.out, ← List.length_map (f := (·.s)), List.take_length])
      have V9 := V0.out
      rw [HT.out] at V9
      have V9 := Lib.hid V9
      clear hlt hi
      go_wp2_with fail
      go_ret
      exact ⟨_, rfl, V9.out, HB.out⟩
end Go.Proofs.Ytmeakfocppooiaa
