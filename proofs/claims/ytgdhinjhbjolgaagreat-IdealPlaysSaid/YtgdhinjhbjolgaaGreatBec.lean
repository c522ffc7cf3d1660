/-
  Parts of the proof, joined.
-/
import Derived.Test.YtgdhinjhbjolgaaGreatBeb
namespace Go.Proofs.YtgdhinjhbjolgaaGreat
set_option maxHeartbeats 4000000
open Go.RowKit
set_option linter.unusedVariables false
set_option linter.unusedSimpArgs false
theorem yields_appEW {o:Oper} {a:Act} {W:World} {B:Nat} (s x:Operand) (ho:o.op = .call { callee:=.builtin .append,args:=#[s,x],argTypes:=#[32,32] })
 (hs:EmO B (a.eval s) W) {A:Option Addr} {m d:Nat} {lx:List Nat} (hx:IsB W A m d lx) (he:a.eval x = .slice A m d) (hm:m≤140737488351232) (hB:B≤W.heap.size):Yields Tryz.prog o a W false (OwR B lx):=by
 obtain⟨g,h1,h2⟩:=hs
 rw[h1] at h2
 have hl:=hx.len
 by_cases h0:m=0
 · subst h0
   obtain rfl:lx=[]:=List.eq_nil_of_length_eq_zero hl
   obtain⟨i0,hi0,hz0,hz1,hz2⟩:=info_parts infoU8
   refine .inl ⟨.slice (some ⟨g,0,none⟩) 0 0,W,?_,h2,Below.refl _ _,fresh_no _ _ _⟩
   have hrun:(Builtin.append_ #[32,32] o.type #[.slice (some ⟨g,0,none⟩) 0 0,.slice A 0 d]).run Tryz.prog W = .ok (.slice (some ⟨g,0,none⟩) 0 0) W:=by
    cases A <;> simp[Builtin.append_,run_underlying Tryz.underlying32,sizeOf,typeInfo,hi0,Builtin.lenOf,Builtin.firstCells,storeCells,loadCells,loadCellsFrom]
   unfold execOp
   simp only[ho,resolve,invoke,builtin,Sem.run_bind,Sem.run_pure,Result.andThen_ok,List.map_toArray,List.map_cons,List.map_nil,h1,he,hrun]
 · obtain⟨X,e,_⟩:=hx.cell (by omega)
   subst e
   refine yields_appG s x ho (isB_empty W ⟨g,0,none⟩) h1 hx he (by omega) (by omega) fun v' W' hv hb=>?_
   exact hv.lower hB
theorem szCallZ (a b c d e f g h i j k l m n:Value):(Tryz.prog.info? 37).map (·.size)=some (#[a,b,c,d,e,f,g,h,i,j,k,l,m,n]:Array Value).size:=by
 have:(Tryz.prog.info? 37).map (·.size)=some 14:=by kernel_rfl
 rw[this]
 rfl
theorem infoOpZ:(Tryz.prog.info? 61).map (fun i=>(i.zero,i.size,i.bytes))=some (some (.agg #[.slice none 0 0,.slice none 0 0,.bool false]),3,56):=by kernel_rfl
theorem own_neZ {w:World} {B g:Nat} {T:TypeId} {v:Value} {l:List Nat} {cs:Array Value} (h:OwB w B v l) (hc:CbB w g T cs) (hT:T≠5):v.ownBlock≠some g:=row_ne h.own hc hT
structure CC (w:World) (c:CallP) (b d:Nat) (cs:Array Value) (wr:World):Prop where
 call:CbB wr b 37 c.cs
 dst:CbB wr d 37 cs
 ne:b≠d
 low:w.heap.size≤d
 bel:Below w.heap.size w wr
theorem CC.ab {w:World} {c:CallP} {b d:Nat} {cs:Array Value} {wr w2:World} (h:CC w c b d cs wr) (hb:Below wr.heap.size wr w2):CC w c b d cs w2:=⟨h.call.ab hb,h.dst.ab hb,h.ne,h.low,below_tr h.bel hb h.bel.size⟩
theorem CC.set {w:World} {c:CallP} {b d:Nat} {cs:Array Value} {wr:World} (h:CC w c b d cs wr) (k:Nat) (v:Value):CC w c b d (cs.setIfInBounds k v) (wr.setCell ⟨d,k,none⟩ v):=
 ⟨h.call.far h.ne v,h.dst.set k v,h.ne,h.low,Fr.below (fr_set wr d k v) (fun q hq=>hq▸h.low) h.bel h.bel.size⟩
theorem OwB.setC {w:World} {B d k:Nat} {v u:Value} {l:List Nat} {cs:Array Value} (h:OwB w B v l) (hd:CbB w d 37 cs):OwB (w.setCell ⟨d,k,none⟩ u) B v l:=h.fr (fr_set w d k u) fun g hg e=>own_neZ h hd (by decide) (by rw[hg,e])
theorem call_results {fn:Func} {p:Tmp} (h:fn.results = #[.cell p 37]) (tmps:Array Value) (W:World) (g:Nat) (cs:Array Value) (hp:tmps.getD p undef = .pointer (some ⟨g,0,none⟩)) (hg:CbB W g 37 cs) (hs:cs.size=14):
 (results fn tmps).run Tryz.prog W = .ok (.agg cs) W:=
 results_cell_row h tmps W g 37 cs (0,0) _ hp hg Tryz.underlying37 rfl (by rw[hs];kernel_rfl)
def opL (o:OpP):List Value:=[.slice o.k.A o.k.n o.k.c,.slice o.v.A o.v.n o.v.c,.bool o.d]
structure PsO (w:World) (B:Nat) (v:Value) (P:List OpP):Prop where
 row:w.ownsRow B 61 3 v P.length (P.flatMap opL)
 el:∀o∈P,OwB w B (.slice o.k.A o.k.n o.k.c) o.k.l∧OwB w B (.slice o.v.A o.v.n o.v.c) o.v.l
theorem PsO.setC {w:World} {B d k:Nat} {v u:Value} {P:List OpP} {cs:Array Value} (h:PsO w B v P) (hd:CbB w d 37 cs):PsO (w.setCell ⟨d,k,none⟩ u) B v P:=
 ⟨row_fr h.row (fr_set w d k u) (fun g hg e=>row_ne h.row hd (by decide) (by rw[hg,e])),fun o ho=>⟨(h.el o ho).1.setC hd,(h.el o ho).2.setC hd⟩⟩
theorem flat3 {P:List OpP} {j:Nat} {o:OpP} (h:P[j]? = some o):(P.flatMap opL)[j*3]? = some (.slice o.k.A o.k.n o.k.c)∧(P.flatMap opL)[j*3+1]? = some (.slice o.v.A o.v.n o.v.c)∧(P.flatMap opL)[j*3+2]? = some (.bool o.d):=by
 induction P generalizing j with
 | nil=>simp at h
 | cons q r ih=>
   rw[List.flatMap_cons]
   cases j with
   | zero=>simp at h;subst h;simp[opL]
   | succ j=>
     rw[List.getElem?_cons_succ] at h
     obtain⟨h1,h2,h3⟩:=ih h
     have hl:(opL q).length=3:=rfl
     refine⟨?_,?_,?_⟩
     · rw[List.getElem?_append_right (by omega),hl,show (j+1)*3-3=j*3 by omega];exact h1
     · rw[List.getElem?_append_right (by omega),hl,show (j+1)*3+1-3=j*3+1 by omega];exact h2
     · rw[List.getElem?_append_right (by omega),hl,show (j+1)*3+2-3=j*3+2 by omega];exact h3
theorem PsO.at {w:World} {B i oc:Nat} {oA:Option Addr} {P:List OpP} (h:PsO w B (.slice oA i oc) P) (hl:P.length=i) {j:Nat} {o:OpP} (ho:P[j]? = some o):
 ∃g,oA=some ⟨g,0,none⟩∧w.cell? ⟨g,j*3,none⟩=some (.slice o.k.A o.k.n o.k.c)∧w.cell? ⟨g,j*3+1,none⟩=some (.slice o.v.A o.v.n o.v.c)∧w.cell? ⟨g,j*3+2,none⟩=some (.bool o.d):=by
 have hr:=h.row
 rw[hl] at hr
 have hj:=(List.getElem?_eq_some_iff.1 ho).1
 obtain⟨g,hg,hc⟩:=row_cells hr (by omega)
 obtain⟨f1,f2,f3⟩:=flat3 ho
 exact⟨g,hg,hc _ _ f1,hc _ _ f2,hc _ _ f3⟩
theorem row_capZ {w:World} {B n s c:Nat} {e:TypeId} {A:Option Addr} {xs:List Value} (h:w.ownsRow B e s (.slice A n c) n xs):n≤c∧c≤maxLen:=by
 rcases h.2 with ⟨h1,h2⟩ | ⟨g,cap,cur,h1,_,_,h3,h4,_⟩
 · injection h1 with _ h1 h3
   exact⟨by omega,by rw[h3];exact Nat.zero_le _⟩
 · injection h1 with _ _ h1
   omega
theorem SpB.own {w:World} {O:Tg} {B n c:Nat} {A:Option Addr} {l:List Nat} (h:OwB w B (.slice A n c) l) (hn:l.length=n) (ht:∀g,B≤g→O g=some (0,0)) (hb:n≤9223372036854775807):SpB .u8 w O A n:=
 ⟨hb,fun i hi=>by
  obtain⟨g,cap,e,h1,_,_,_,h2⟩:=h.form (by omega)
  simp only[Value.slice.injEq] at e
  obtain⟨rfl,_,rfl⟩:=e
  exact⟨g,_,rfl,ht g h1,h2 i (by omega),h.free hn i⟩⟩
theorem PsO.opsB {w:World} {B i oc:Nat} {oA:Option Addr} {P:List OpP} (h:PsO w B (.slice oA i oc) P) (hl:P.length=i) (hn:∀o∈P,o.k.l.length=o.k.n∧o.v.l.length=o.v.n):OpsB w oA i oc P:=by
 have hr:=h.row
 rw[hl] at hr
 obtain⟨c1,c2⟩:=row_capZ hr
 refine⟨hl,c1,c2,fun j o ho=>?_⟩
 obtain⟨g,rfl,a1,a2,a3⟩:=h.at hl ho
 obtain⟨e1,e2⟩:=h.el o (List.mem_of_getElem? ho)
 obtain⟨n1,n2⟩:=hn o (List.mem_of_getElem? ho)
 have ha:(⟨g,0,none⟩:Addr).add (j*3)=⟨g,j*3,none⟩:=by
  by_cases h0:j*3=0
  · rw[h0];simp[Addr.add]
  · simp[Addr.add,h0]
 refine⟨_,rfl,cell_lt a1,?_,?_,?_,e1.isB n1,e2.isB n2⟩
 · rw[ha];exact a1
 · rw[ha];exact a2
 · rw[ha];exact a3
theorem er_len {P Q:List OpP} (h:P.map OpP.er=Q.map OpP.er) (hq:∀o∈Q,o.k.l.length=o.k.n∧o.v.l.length=o.v.n):∀o∈P,o.k.l.length=o.k.n∧o.v.l.length=o.v.n:=fun o ho=>by
 have:o.er∈Q.map OpP.er:=by rw[←h];exact List.mem_map.2 ⟨o,ho,rfl⟩
 obtain⟨q,hq1,hq2⟩:=List.mem_map.1 this
 have:=hq q hq1
 unfold OpP.er SlA.er at hq2
 simp only[OpP.mk.injEq,SlA.mk.injEq,true_and] at hq2
 obtain⟨⟨a1,a2⟩,⟨a3,a4⟩,_⟩:=hq2
 rw[←a1,←a3,←a2,←a4]
 exact this
set_option maxRecDepth 100000 in
theorem copyC_any {w:World} {O:Tg} {c:CallP} (hc:c.B w) (hs:CallS c):Calls Tryz.prog 12 #[.agg c.cs] w fun e w'=>∃c',e = .returned (.agg c'.cs)∧c'.er=c.er∧c'.B w'∧SpC w' (cutTg O w.heap.size) c'∧Below w.heap.size w w':=by
 have HC:=zz hc
 have HS:=zz hs
 obtain⟨i0,hi0,hz0,hz1,hz2⟩:=info_parts infoU8
 have n0:(c.oN:Int)≤2513169440000:=by have:=hs.cap;have:=hc.ops.cap;omega
 have HL:=zz hc.ops.len
 have ha:Below w.heap.size w ((w.alloc (.cells #[.int .i64 c.kind,.int .u32 (c.ten:Int),.slice c.sec.A c.sec.n c.sec.c,.int .i64 c.quota,.int .i64 c.n,.int .u64 (c.hd:Int),.int .u64 (c.oth:Int),.int .u64 (c.sn:Int),.int .u8 (c.rt:Int),.slice c.oA c.oN c.oC,.slice c.key.A c.key.n c.key.c,.slice c.frm.A c.frm.n c.frm.c,.slice c.upto.A c.upto.n c.upto.c,.bool c.back] 37)).alloc (.cells #[.int .i64 0,.int .u32 0,.slice none 0 0,.int .i64 0,.int .i64 0,.int .u64 0,.int .u64 0,.int .u64 0,.int .u8 0,.slice none 0 0,.slice none 0 0,.slice none 0 0,.slice none 0 0,.bool false] 37)):=alB.alloc (by simp) _
 have hcb:CbB ((w.alloc (.cells #[.int .i64 c.kind,.int .u32 (c.ten:Int),.slice c.sec.A c.sec.n c.sec.c,.int .i64 c.quota,.int .i64 c.n,.int .u64 (c.hd:Int),.int .u64 (c.oth:Int),.int .u64 (c.sn:Int),.int .u8 (c.rt:Int),.slice c.oA c.oN c.oC,.slice c.key.A c.key.n c.key.c,.slice c.frm.A c.frm.n c.frm.c,.slice c.upto.A c.upto.n c.upto.c,.bool c.back] 37)).alloc (.cells #[.int .i64 0,.int .u32 0,.slice none 0 0,.int .i64 0,.int .i64 0,.int .u64 0,.int .u64 0,.int .u64 0,.int .u8 0,.slice none 0 0,.slice none 0 0,.slice none 0 0,.slice none 0 0,.bool false] 37)) w.heap.size 37 c.cs:=(CbB.new w _ _).ab (alB)
 have hrb:CbB ((w.alloc (.cells #[.int .i64 c.kind,.int .u32 (c.ten:Int),.slice c.sec.A c.sec.n c.sec.c,.int .i64 c.quota,.int .i64 c.n,.int .u64 (c.hd:Int),.int .u64 (c.oth:Int),.int .u64 (c.sn:Int),.int .u8 (c.rt:Int),.slice c.oA c.oN c.oC,.slice c.key.A c.key.n c.key.c,.slice c.frm.A c.frm.n c.frm.c,.slice c.upto.A c.upto.n c.upto.c,.bool c.back] 37)).alloc (.cells #[.int .i64 0,.int .u32 0,.slice none 0 0,.int .i64 0,.int .i64 0,.int .u64 0,.int .u64 0,.int .u64 0,.int .u8 0,.slice none 0 0,.slice none 0 0,.slice none 0 0,.slice none 0 0,.bool false] 37)) (w.heap.size+1) 37 #[.int .i64 0,.int .u32 0,.slice none 0 0,.int .i64 0,.int .i64 0,.int .u64 0,.int .u64 0,.int .u64 0,.int .u8 0,.slice none 0 0,.slice none 0 0,.slice none 0 0,.slice none 0 0,.bool false]:=CbB.newI (by simp)
 clear hc hs
 unfold CallP.cs at hcb⊢
 go_enter Tryz.func12,Tryz.ntmps12
 go_upto_region 1 with (fail)
 obtain⟨w0,hw0⟩:∃w0,((w.alloc (.cells #[.int .i64 c.kind,.int .u32 (c.ten:Int),.slice c.sec.A c.sec.n c.sec.c,.int .i64 c.quota,.int .i64 c.n,.int .u64 (c.hd:Int),.int .u64 (c.oth:Int),.int .u64 (c.sn:Int),.int .u8 (c.rt:Int),.slice c.oA c.oN c.oC,.slice c.key.A c.key.n c.key.c,.slice c.frm.A c.frm.n c.frm.c,.slice c.upto.A c.upto.n c.upto.c,.bool c.back] 37)).alloc (.cells #[.int .i64 0,.int .u32 0,.slice none 0 0,.int .i64 0,.int .i64 0,.int .u64 0,.int .u64 0,.int .u64 0,.int .u8 0,.slice none 0 0,.slice none 0 0,.slice none 0 0,.slice none 0 0,.bool false] 37))=w0:=⟨_,rfl⟩
 rw[hw0] at ha hcb hrb⊢
 obtain⟨b,hbx⟩:∃b,w.heap.size=b:=⟨_,rfl⟩
 have HBX:=zz hbx
 have HA:=zz ha
 rw[hbx] at hcb hrb⊢
 have CBX:=zz hcb
 have RBX:=zz hrb
 have c0:∀o,(w0.alloc o).cell? ⟨b,0,none⟩=some (.int .i64 c.kind):=fun o=>(CBX.out.ab ((Below.refl _ _).alloc (Nat.le_refl _) o)).cell (k:=0) rfl
 have d0:w0.cell? ⟨b,0,none⟩=some (.int .i64 c.kind):=CBX.out.cell (k:=0) rfl
 have c1:∀o,(w0.alloc o).cell? ⟨b,1,none⟩=some (.int .u32 (c.ten:Int)):=fun o=>(CBX.out.ab ((Below.refl _ _).alloc (Nat.le_refl _) o)).cell (k:=1) rfl
 have d1:w0.cell? ⟨b,1,none⟩=some (.int .u32 (c.ten:Int)):=CBX.out.cell (k:=1) rfl
 have c2:∀o,(w0.alloc o).cell? ⟨b,2,none⟩=some (.slice c.sec.A c.sec.n c.sec.c):=fun o=>(CBX.out.ab ((Below.refl _ _).alloc (Nat.le_refl _) o)).cell (k:=2) rfl
 have d2:w0.cell? ⟨b,2,none⟩=some (.slice c.sec.A c.sec.n c.sec.c):=CBX.out.cell (k:=2) rfl
 have c3:∀o,(w0.alloc o).cell? ⟨b,3,none⟩=some (.int .i64 c.quota):=fun o=>(CBX.out.ab ((Below.refl _ _).alloc (Nat.le_refl _) o)).cell (k:=3) rfl
 have d3:w0.cell? ⟨b,3,none⟩=some (.int .i64 c.quota):=CBX.out.cell (k:=3) rfl
 have c4:∀o,(w0.alloc o).cell? ⟨b,4,none⟩=some (.int .i64 c.n):=fun o=>(CBX.out.ab ((Below.refl _ _).alloc (Nat.le_refl _) o)).cell (k:=4) rfl
 have d4:w0.cell? ⟨b,4,none⟩=some (.int .i64 c.n):=CBX.out.cell (k:=4) rfl
 have c5:∀o,(w0.alloc o).cell? ⟨b,5,none⟩=some (.int .u64 (c.hd:Int)):=fun o=>(CBX.out.ab ((Below.refl _ _).alloc (Nat.le_refl _) o)).cell (k:=5) rfl
 have d5:w0.cell? ⟨b,5,none⟩=some (.int .u64 (c.hd:Int)):=CBX.out.cell (k:=5) rfl
 have c6:∀o,(w0.alloc o).cell? ⟨b,6,none⟩=some (.int .u64 (c.oth:Int)):=fun o=>(CBX.out.ab ((Below.refl _ _).alloc (Nat.le_refl _) o)).cell (k:=6) rfl
 have d6:w0.cell? ⟨b,6,none⟩=some (.int .u64 (c.oth:Int)):=CBX.out.cell (k:=6) rfl
 have c7:∀o,(w0.alloc o).cell? ⟨b,7,none⟩=some (.int .u64 (c.sn:Int)):=fun o=>(CBX.out.ab ((Below.refl _ _).alloc (Nat.le_refl _) o)).cell (k:=7) rfl
 have d7:w0.cell? ⟨b,7,none⟩=some (.int .u64 (c.sn:Int)):=CBX.out.cell (k:=7) rfl
 have c8:∀o,(w0.alloc o).cell? ⟨b,8,none⟩=some (.int .u8 (c.rt:Int)):=fun o=>(CBX.out.ab ((Below.refl _ _).alloc (Nat.le_refl _) o)).cell (k:=8) rfl
 have d8:w0.cell? ⟨b,8,none⟩=some (.int .u8 (c.rt:Int)):=CBX.out.cell (k:=8) rfl
 have c9:∀o,(w0.alloc o).cell? ⟨b,9,none⟩=some (.slice c.oA c.oN c.oC):=fun o=>(CBX.out.ab ((Below.refl _ _).alloc (Nat.le_refl _) o)).cell (k:=9) rfl
 have d9:w0.cell? ⟨b,9,none⟩=some (.slice c.oA c.oN c.oC):=CBX.out.cell (k:=9) rfl
 have c10:∀o,(w0.alloc o).cell? ⟨b,10,none⟩=some (.slice c.key.A c.key.n c.key.c):=fun o=>(CBX.out.ab ((Below.refl _ _).alloc (Nat.le_refl _) o)).cell (k:=10) rfl
 have d10:w0.cell? ⟨b,10,none⟩=some (.slice c.key.A c.key.n c.key.c):=CBX.out.cell (k:=10) rfl
 have c11:∀o,(w0.alloc o).cell? ⟨b,11,none⟩=some (.slice c.frm.A c.frm.n c.frm.c):=fun o=>(CBX.out.ab ((Below.refl _ _).alloc (Nat.le_refl _) o)).cell (k:=11) rfl
 have d11:w0.cell? ⟨b,11,none⟩=some (.slice c.frm.A c.frm.n c.frm.c):=CBX.out.cell (k:=11) rfl
 have c12:∀o,(w0.alloc o).cell? ⟨b,12,none⟩=some (.slice c.upto.A c.upto.n c.upto.c):=fun o=>(CBX.out.ab ((Below.refl _ _).alloc (Nat.le_refl _) o)).cell (k:=12) rfl
 have d12:w0.cell? ⟨b,12,none⟩=some (.slice c.upto.A c.upto.n c.upto.c):=CBX.out.cell (k:=12) rfl
 have c13:∀o,(w0.alloc o).cell? ⟨b,13,none⟩=some (.bool c.back):=fun o=>(CBX.out.ab ((Below.refl _ _).alloc (Nat.le_refl _) o)).cell (k:=13) rfl
 have d13:w0.cell? ⟨b,13,none⟩=some (.bool c.back):=CBX.out.cell (k:=13) rfl
 have D0:Hid (CbB (w0.alloc (.cells #[.int .i64 0,.int .u32 0,.slice none 0 0,.int .i64 0,.int .i64 0,.int .u64 0,.int .u64 0,.int .u64 0,.int .u8 0,.slice none 0 0,.slice none 0 0,.slice none 0 0,.slice none 0 0,.bool false] 37)) w0.heap.size 37 #[.int .i64 0,.int .u32 0,.slice none 0 0,.int .i64 0,.int .i64 0,.int .u64 0,.int .u64 0,.int .u64 0,.int .u8 0,.slice none 0 0,.slice none 0 0,.slice none 0 0,.slice none 0 0,.bool false]):=zz (CbB.new _ _ _)
 clear hw0 hbx ha hcb hrb
 go_upto_region 2 with (first
  | (with_reducible refine wpList_storeC (o:=⟨none,.store _ (.tmp 3) (.tmp 5),_,_,_,_⟩) ?_ 37 (.tmp 3) (.tmp 5) ?_ w0.heap.size ?_ (#[.int .i64 c.kind,.int .u32 (c.ten:Int),.slice c.sec.A c.sec.n c.sec.c,.int .i64 c.quota,.int .i64 c.n,.int .u64 (c.hd:Int),.int .u64 (c.oth:Int),.int .u64 (c.sn:Int),.int .u8 (c.rt:Int),.slice c.oA c.oN c.oC,.slice c.key.A c.key.n c.key.c,.slice c.frm.A c.frm.n c.frm.c,.slice c.upto.A c.upto.n c.upto.c,.bool c.back]) ?_ (cs:=#[.int .i64 0,.int .u32 0,.slice none 0 0,.int .i64 0,.int .i64 0,.int .u64 0,.int .u64 0,.int .u64 0,.int .u8 0,.slice none 0 0,.slice none 0 0,.slice none 0 0,.slice none 0 0,.bool false]) (t:=37) D0.out (szCallZ _ _ _ _ _ _ _ _ _ _ _ _ _ _) ?_ (by simp[Value.oneCell']) ?_
     · rfl
     · rfl
     · rfl
     · rfl
     · rfl
     intro w1 hw1
     have X1:Hid (CbB w1 w0.heap.size 37 (#[.int .i64 c.kind,.int .u32 (c.ten:Int),.slice c.sec.A c.sec.n c.sec.c,.int .i64 c.quota,.int .i64 c.n,.int .u64 (c.hd:Int),.int .u64 (c.oth:Int),.int .u64 (c.sn:Int),.int .u8 (c.rt:Int),.slice c.oA c.oN c.oC,.slice c.key.A c.key.n c.key.c,.slice c.frm.A c.frm.n c.frm.c,.slice c.upto.A c.upto.n c.upto.c,.bool c.back])):=zz (by rw[hw1];exact CbB.row D0.out _)
     have F1:Hid (Fr (w0.alloc (.cells #[.int .i64 0,.int .u32 0,.slice none 0 0,.int .i64 0,.int .i64 0,.int .u64 0,.int .u64 0,.int .u64 0,.int .u8 0,.slice none 0 0,.slice none 0 0,.slice none 0 0,.slice none 0 0,.bool false] 37)) w1 (fun k=>k=w0.heap.size)):=zz (by rw[hw1];exact fr_rowX _ _ _)
     clear hw1))
 obtain⟨d,hdx⟩:∃d,w0.heap.size=d:=⟨_,rfl⟩
 have BD:b<d:=by rw[←hdx];exact CBX.out.lt
 have LD:w.heap.size≤d:=by rw[←hdx];exact HA.out.size
 rw[hdx] at X1 F1⊢
 have K1:Hid (CC w c b d (#[.int .i64 c.kind,.int .u32 (c.ten:Int),.slice c.sec.A c.sec.n c.sec.c,.int .i64 c.quota,.int .i64 c.n,.int .u64 (c.hd:Int),.int .u64 (c.oth:Int),.int .u64 (c.sn:Int),.int .u8 (c.rt:Int),.slice c.oA c.oN c.oC,.slice c.key.A c.key.n c.key.c,.slice c.frm.A c.frm.n c.frm.c,.slice c.upto.A c.upto.n c.upto.c,.bool c.back]) w1):=zz ⟨(CBX.out.ab (alB)).fr F1.out (by omega),X1.out,by omega,LD,Fr.below F1.out (fun q hq=>hq▸LD) (below_tr HA.out (alB) HA.out.size) (by have:=HA.out.size;simp;omega)⟩
 have RB:Hid (CbB w1 (b+1) 37 #[.int .i64 0,.int .u32 0,.slice none 0 0,.int .i64 0,.int .i64 0,.int .u64 0,.int .u64 0,.int .u64 0,.int .u8 0,.slice none 0 0,.slice none 0 0,.slice none 0 0,.slice none 0 0,.bool false]):=zz ((RBX.out.ab (alB)).fr F1.out (by have:=RBX.out.lt;omega))
 have N1:Hid (b+1≠d):=zz (by have:=RBX.out.lt;omega)
 have hbd:b≠d:=by omega
 clear X1 F1 D0 hdx BD LD CBX RBX HA c0 d0 c1 d1 c2 d2 c3 d3 c4 d4 c5 d5 c6 d6 c7 d7 c8 d8 c9 d9 c10 d10 c11 d11 c12 d12 c13 d13
 have e2:∀o,(w1.alloc o).cell? ⟨b,2,none⟩=some (.slice c.sec.A c.sec.n c.sec.c):=fun o=>(K1.out.call.ab ((Below.refl _ _).alloc (Nat.le_refl _) o)).cell (k:=2) rfl
 have AL:Hid (Below w1.heap.size w1 (w1.alloc (.cells #[] 5))):=zz (alB)
 have EM:Hid (OwB (w1.alloc (.cells #[] 5)) w1.heap.size (.slice (some ⟨w1.heap.size,0,none⟩) 0 0) []):=zz (own_empty w1 _ (Nat.le_refl _))
 have IS:=zz (HC.out.sec.ab (below_tr K1.out.bel AL.out K1.out.bel.size))
 have BN:Hid (c.sec.n≤140737488351232):=zz (by have:=HS.out.sec;have:=HC.out.sec.1.2.1;omega)
 go_upto_region 3 with (first
  | (refine wpList_appB _ rfl (.tmp 6) (.tmp 8) rfl Tryz.underlying32 hi0 hz0 hz1 hz2 rfl EM.out rfl IS.out rfl (by have:=BN.out;simp;omega) (by simp) ?_
     intro v2 w2 hown hb2 hg2 _
     rw[List.nil_append] at hown
     obtain⟨A2,k2,hv2,_⟩:=hown.shape
     subst hv2
     have B2:Hid (Below w1.heap.size w1 w2):=zz (AL.out.trans hb2)
     have O2:Hid (OwB w2 w.heap.size (.slice A2 c.sec.l.length k2) c.sec.l):=zz (hown.lower K1.out.bel.size)
     have K2:=zz (K1.out.ab B2.out)
     have x2:=K2.out.dst.cell (k:=2) rfl
     have f2:=K2.out.dst.free 2
     clear hown hb2 hg2))
 have K3:=zz (K2.out.set 2 (.slice A2 c.sec.l.length k2))
 have P2:=zz (O2.out.setC (k:=2) (u:=.slice A2 c.sec.l.length k2) K2.out.dst)
 have R3:=zz ((RB.out.ab B2.out).far N1.out (k:=2) (.slice A2 c.sec.l.length k2))
 obtain⟨w3,hw3⟩:∃w3,w2.setCell ⟨d,2,none⟩ (.slice A2 c.sec.l.length k2)=w3:=⟨_,rfl⟩
 rw[hw3] at K3 P2 R3 ⊢
 clear  hw3 x2 f2 O2 B2 K2 AL EM IS BN e2 K1 RB
 have e10:∀o,(w3.alloc o).cell? ⟨b,10,none⟩=some (.slice c.key.A c.key.n c.key.c):=fun o=>(K3.out.call.ab ((Below.refl _ _).alloc (Nat.le_refl _) o)).cell (k:=10) rfl
 have AL:Hid (Below w3.heap.size w3 (w3.alloc (.cells #[] 5))):=zz (alB)
 have EM:Hid (OwB (w3.alloc (.cells #[] 5)) w3.heap.size (.slice (some ⟨w3.heap.size,0,none⟩) 0 0) []):=zz (own_empty w3 _ (Nat.le_refl _))
 have IS:=zz (HC.out.key.ab (below_tr K3.out.bel AL.out K3.out.bel.size))
 have BN:Hid (c.key.n≤140737488351232):=zz (by have:=HS.out.key;have:=HC.out.key.1.2.1;omega)
 go_upto_region 4 with (first
  | (refine wpList_appB _ rfl (.tmp 11) (.tmp 13) rfl Tryz.underlying32 hi0 hz0 hz1 hz2 rfl EM.out rfl IS.out rfl (by have:=BN.out;simp;omega) (by simp) ?_
     intro v4 w4 hown hb2 hg2 _
     rw[List.nil_append] at hown
     obtain⟨A10,k10,hv2,_⟩:=hown.shape
     subst hv2
     have B4:Hid (Below w3.heap.size w3 w4):=zz (AL.out.trans hb2)
     have O10:Hid (OwB w4 w.heap.size (.slice A10 c.key.l.length k10) c.key.l):=zz (hown.lower K3.out.bel.size)
     have K4:=zz (K3.out.ab B4.out)
     have x10:=K4.out.dst.cell (k:=10) rfl
     have f10:=K4.out.dst.free 10
     clear hown hb2 hg2))
 have K5:=zz (K4.out.set 10 (.slice A10 c.key.l.length k10))
 have P10:=zz (O10.out.setC (k:=10) (u:=.slice A10 c.key.l.length k10) K4.out.dst)
 have R5:=zz ((R3.out.ab B4.out).far N1.out (k:=10) (.slice A10 c.key.l.length k10))
 have Q2:=zz ((P2.out.ab B4.out).setC (k:=10) (u:=.slice A10 c.key.l.length k10) K4.out.dst)
 obtain⟨w5,hw5⟩:∃w5,w4.setCell ⟨d,10,none⟩ (.slice A10 c.key.l.length k10)=w5:=⟨_,rfl⟩
 rw[hw5] at K5 P10 R5 Q2⊢
 clear P2 hw5 x10 f10 O10 B4 K4 AL EM IS BN e10 K3 R3
 have P2:=Q2
 clear Q2
 have e11:∀o,(w5.alloc o).cell? ⟨b,11,none⟩=some (.slice c.frm.A c.frm.n c.frm.c):=fun o=>(K5.out.call.ab ((Below.refl _ _).alloc (Nat.le_refl _) o)).cell (k:=11) rfl
 have AL:Hid (Below w5.heap.size w5 (w5.alloc (.cells #[] 5))):=zz (alB)
 have EM:Hid (OwB (w5.alloc (.cells #[] 5)) w5.heap.size (.slice (some ⟨w5.heap.size,0,none⟩) 0 0) []):=zz (own_empty w5 _ (Nat.le_refl _))
 have IS:=zz (HC.out.frm.ab (below_tr K5.out.bel AL.out K5.out.bel.size))
 have BN:Hid (c.frm.n≤140737488351232):=zz (by have:=HS.out.frm;have:=HC.out.frm.1.2.1;omega)
 go_upto_region 5 with (first
  | (refine wpList_appB _ rfl (.tmp 16) (.tmp 18) rfl Tryz.underlying32 hi0 hz0 hz1 hz2 rfl EM.out rfl IS.out rfl (by have:=BN.out;simp;omega) (by simp) ?_
     intro v6 w6 hown hb2 hg2 _
     rw[List.nil_append] at hown
     obtain⟨A11,k11,hv2,_⟩:=hown.shape
     subst hv2
     have B6:Hid (Below w5.heap.size w5 w6):=zz (AL.out.trans hb2)
     have O11:Hid (OwB w6 w.heap.size (.slice A11 c.frm.l.length k11) c.frm.l):=zz (hown.lower K5.out.bel.size)
     have K6:=zz (K5.out.ab B6.out)
     have x11:=K6.out.dst.cell (k:=11) rfl
     have f11:=K6.out.dst.free 11
     clear hown hb2 hg2))
 have K7:=zz (K6.out.set 11 (.slice A11 c.frm.l.length k11))
 have P11:=zz (O11.out.setC (k:=11) (u:=.slice A11 c.frm.l.length k11) K6.out.dst)
 have R7:=zz ((R5.out.ab B6.out).far N1.out (k:=11) (.slice A11 c.frm.l.length k11))
 have Q2:=zz ((P2.out.ab B6.out).setC (k:=11) (u:=.slice A11 c.frm.l.length k11) K6.out.dst)
 have Q10:=zz ((P10.out.ab B6.out).setC (k:=11) (u:=.slice A11 c.frm.l.length k11) K6.out.dst)
 obtain⟨w7,hw7⟩:∃w7,w6.setCell ⟨d,11,none⟩ (.slice A11 c.frm.l.length k11)=w7:=⟨_,rfl⟩
 rw[hw7] at K7 P11 R7 Q2 Q10⊢
 clear P2 P10 hw7 x11 f11 O11 B6 K6 AL EM IS BN e11 K5 R5
 have P2:=Q2
 clear Q2
 have P10:=Q10
 clear Q10
 have e12:∀o,(w7.alloc o).cell? ⟨b,12,none⟩=some (.slice c.upto.A c.upto.n c.upto.c):=fun o=>(K7.out.call.ab ((Below.refl _ _).alloc (Nat.le_refl _) o)).cell (k:=12) rfl
 have AL:Hid (Below w7.heap.size w7 (w7.alloc (.cells #[] 5))):=zz (alB)
 have EM:Hid (OwB (w7.alloc (.cells #[] 5)) w7.heap.size (.slice (some ⟨w7.heap.size,0,none⟩) 0 0) []):=zz (own_empty w7 _ (Nat.le_refl _))
 have IS:=zz (HC.out.upto.ab (below_tr K7.out.bel AL.out K7.out.bel.size))
 have BN:Hid (c.upto.n≤140737488351232):=zz (by have:=HS.out.upto;have:=HC.out.upto.1.2.1;omega)
 go_upto_region 6 with (first
  | (refine wpList_appB _ rfl (.tmp 21) (.tmp 23) rfl Tryz.underlying32 hi0 hz0 hz1 hz2 rfl EM.out rfl IS.out rfl (by have:=BN.out;simp;omega) (by simp) ?_
     intro v8 w8 hown hb2 hg2 _
     rw[List.nil_append] at hown
     obtain⟨A12,k12,hv2,_⟩:=hown.shape
     subst hv2
     have B8:Hid (Below w7.heap.size w7 w8):=zz (AL.out.trans hb2)
     have O12:Hid (OwB w8 w.heap.size (.slice A12 c.upto.l.length k12) c.upto.l):=zz (hown.lower K7.out.bel.size)
     have K8:=zz (K7.out.ab B8.out)
     have x12:=K8.out.dst.cell (k:=12) rfl
     have f12:=K8.out.dst.free 12
     clear hown hb2 hg2))
 have K9:=zz (K8.out.set 12 (.slice A12 c.upto.l.length k12))
 have P12:=zz (O12.out.setC (k:=12) (u:=.slice A12 c.upto.l.length k12) K8.out.dst)
 have R9:=zz ((R7.out.ab B8.out).far N1.out (k:=12) (.slice A12 c.upto.l.length k12))
 have Q2:=zz ((P2.out.ab B8.out).setC (k:=12) (u:=.slice A12 c.upto.l.length k12) K8.out.dst)
 have Q10:=zz ((P10.out.ab B8.out).setC (k:=12) (u:=.slice A12 c.upto.l.length k12) K8.out.dst)
 have Q11:=zz ((P11.out.ab B8.out).setC (k:=12) (u:=.slice A12 c.upto.l.length k12) K8.out.dst)
 obtain⟨w9,hw9⟩:∃w9,w8.setCell ⟨d,12,none⟩ (.slice A12 c.upto.l.length k12)=w9:=⟨_,rfl⟩
 rw[hw9] at K9 P12 R9 Q2 Q10 Q11⊢
 clear P2 P10 P11 hw9 x12 f12 O12 B8 K8 AL EM IS BN e12 K7 R7
 have P2:=Q2
 clear Q2
 have P10:=Q10
 clear Q10
 have P11:=Q11
 clear Q11
 have x9:=K9.out.dst.cell (k:=9) rfl
 have f9:=K9.out.dst.free 9
 have K9z:Hid (CC w c b d (#[.int .i64 c.kind,.int .u32 (c.ten:Int),.slice A2 c.sec.l.length k2,.int .i64 c.quota,.int .i64 c.n,.int .u64 (c.hd:Int),.int .u64 (c.oth:Int),.int .u64 (c.sn:Int),.int .u8 (c.rt:Int),.slice none 0 0,.slice A10 c.key.l.length k10,.slice A11 c.frm.l.length k11,.slice A12 c.upto.l.length k12,.bool c.back]) (w9.setCell ⟨d,9,none⟩ (.slice none 0 0))):=zz (K9.out.set 9 (.slice none 0 0))
 have R9z:=zz (R9.out.far N1.out (k:=9) (.slice none 0 0))
 have Q2:=zz (P2.out.setC (k:=9) (u:=.slice none 0 0) K9.out.dst)
 have Q10:=zz (P10.out.setC (k:=9) (u:=.slice none 0 0) K9.out.dst)
 have Q11:=zz (P11.out.setC (k:=9) (u:=.slice none 0 0) K9.out.dst)
 have Q12:=zz (P12.out.setC (k:=9) (u:=.slice none 0 0) K9.out.dst)
 go_wp2_with fail
 obtain⟨wz,hwz⟩:∃wz,w9.setCell ⟨d,9,none⟩ (.slice none 0 0)=wz:=⟨_,rfl⟩
 rw[hwz] at K9z R9z Q2 Q10 Q11 Q12⊢
 clear hwz x9 f9 P2 P10 P11 P12 K9 R9
 go_loopw [4] (fun z wr=>∃(i:Nat) (P:List OpP) (oA:Option Addr) (oc:Nat),i≤c.oN∧z = .int .i64 (i:Int)∧P.length=i∧P.map OpP.er=(c.ops.take i).map OpP.er∧CC w c b d (#[.int .i64 c.kind,.int .u32 (c.ten:Int),.slice A2 c.sec.l.length k2,.int .i64 c.quota,.int .i64 c.n,.int .u64 (c.hd:Int),.int .u64 (c.oth:Int),.int .u64 (c.sn:Int),.int .u8 (c.rt:Int),.slice oA i oc,.slice A10 c.key.l.length k10,.slice A11 c.frm.l.length k11,.slice A12 c.upto.l.length k12,.bool c.back]) wr∧PsO wr w.heap.size (.slice oA i oc) P∧OwB wr w.heap.size (.slice A2 c.sec.l.length k2) c.sec.l∧OwB wr w.heap.size (.slice A10 c.key.l.length k10) c.key.l∧OwB wr w.heap.size (.slice A11 c.frm.l.length k11) c.frm.l∧OwB wr w.heap.size (.slice A12 c.upto.l.length k12) c.upto.l∧CbB wr (b+1) 37 #[.int .i64 0,.int .u32 0,.slice none 0 0,.int .i64 0,.int .i64 0,.int .u64 0,.int .u64 0,.int .u64 0,.int .u8 0,.slice none 0 0,.slice none 0 0,.slice none 0 0,.slice none 0 0,.bool false]) (fun z _=>c.oN-(intOf z).toNat)
 case atStart=>exact⟨0,[],none,0,Nat.zero_le _,rfl,rfl,rfl,K9z.out,⟨World.ownsRow_nil _ _ _ _,fun o ho=>(by cases ho)⟩,Q2.out,Q10.out,Q11.out,Q12.out,R9z.out⟩
 case round=>
  clear K9z R9z Q2 Q10 Q11 Q12
  obtain⟨i,P,oA,oc,hi,rfl,hPl,hPe,hk,hp,q2,q10,q11,q12,hr⟩:=hrel
  have KK:=zz hk
  have PP:=zz hp
  have PL:=zz hPl
  have PE:=zz hPe
  have Q2:=zz q2
  have Q10:=zz q10
  have Q11:=zz q11
  have Q12:=zz q12
  have RR:=zz hr
  have k9:wr.cell? ⟨b,9,none⟩=some (.slice c.oA c.oN c.oC):=hk.call.cell (k:=9) rfl
  by_cases hlt:i<c.oN
  · obtain⟨o,ho⟩:∃o,c.ops[i]? = some o:=⟨_,List.getElem?_eq_getElem (by rw[HL.out];exact hlt)⟩
    obtain⟨x,hx,hxl,o1,o2,o3,ik,iv⟩:=(HC.out.ops.ab hk.bel).cel i o ho
    have HX:=zz hx
    obtain⟨_,_,_,_,_,_,ik0,iv0⟩:=HC.out.ops.cel i o ho
    have KI:=zz ((HC.out.ops.cel i o ho).choose_spec.2.2.2.2.2)
    have HSO:=zz (HS.out.ops o (List.mem_of_getElem? ho))
    have LTI:Hid ((i:Int)<(c.oN:Int)):=zz (by omega)
    have hlti:=LTI.out
    have KL:=zz hlt
    have HO:=zz ho
    obtain⟨kA,kn,kc,kl,hok⟩:∃kA kn kc kl,o.k=⟨kA,kn,kc,kl⟩:=⟨_,_,_,_,rfl⟩
    obtain⟨vA,vn,vc,vl,hov⟩:∃vA vn vc vl,o.v=⟨vA,vn,vc,vl⟩:=⟨_,_,_,_,rfl⟩
    obtain⟨od,hod⟩:∃od,o.d=od:=⟨_,rfl⟩
    have HOK:=zz hok
    have HOV:=zz hov
    have HOD:=zz hod
    rw[hok] at o1 ik
    rw[hov] at o2 iv
    rw[hod] at o3
    rw[hok] at ik0
    rw[hov] at iv0
    simp only at o1 o2 o3 ik iv ik0 iv0
    have IK0:=zz ik0
    have IV0:=zz iv0
    have CE1:=zz o1
    have CE2:=zz o2
    have CE3:=zz o3
    have IK:=zz ik
    have IV:=zz iv
    have BK:Hid (kn≤140737488351232):=zz (by have h1:=HSO.out.1;rw[hok] at h1;have:=ik.1.2.1;simp only at h1;omega)
    have BV:Hid (vn≤140737488351232):=zz (by have h1:=HSO.out.2;rw[hov] at h1;have:=iv.1.2.1;simp only at h1;omega)
    have HXL:=zz hxl
    have hrow:=hp.row
    rw[hPl] at hrow
    have R0:=zz hrow
    have VL:Hid (∀k,(Value.slice oA i oc).ownBlock=some k→k<wr.heap.size):=zz (row_ltR hrow)
    have VG:Hid (∀k,(Value.slice oA i oc).ownBlock=some k→w.heap.size≤k):=zz (own_ge9 hrow)
    have NB:Hid (¬(Value.slice oA i oc).ownBlock=some b):=zz (row_ne hrow hk.call (by decide))
    have ND:Hid (¬(Value.slice oA i oc).ownBlock=some d):=zz (row_ne hrow hk.dst (by decide))
    have NR:Hid (¬(Value.slice oA i oc).ownBlock=some (b+1)):=zz (row_ne hrow hr (by decide))
    have XL:Hid (x.block<w.heap.size):=zz (by obtain⟨x',hx',hl',_⟩:=HC.out.ops.cel i o ho;rw[hx] at hx';injection hx' with hx';rw[hx'];exact hl')
    have NXB:Hid (¬(Value.slice oA i oc).ownBlock=some x.block):=zz fun e=>by have:=VG.out _ e;have:=XL.out;omega
    have IB:Hid (i≤2513169440000∧(i+1)*56≤140737488351232):=zz (by have h1:=HS.out.cap;have h2:=HC.out.ops.cap;constructor <;> omega)
    obtain⟨j0,hj0,hjz0,hjz1,hjz2⟩:=info_parts infoOpZ
    rw[hx] at k9
    clear hi hlt hPl hPe hk hp q2 q10 q11 q12 hr ho hx hxl o1 o2 o3 ik iv ik0 iv0 hok hov hod hrow
    go_wp2_with fail
    clear k9
    refine wp_wide5 (fun i_ k=>i_=26∧(Value.slice oA i oc).ownBlock=some k) [⟨34,IsR (.pointer (some ⟨d,9,none⟩)),[],false⟩,⟨35,IsR (.slice oA i oc),[0],false⟩,⟨36,(fun z W=>EmO wr.heap.size z W),[],false⟩,⟨37,IsR (.pointer (some ⟨b,9,none⟩)),[],false⟩,⟨38,IsR (.slice (some x) c.oN c.oC),[3],false⟩,⟨39,IsR (.int .i64 (i:Int)),[],false⟩,⟨40,IsR (.pointer (some (x.add (i*3)))),[4,5],false⟩,⟨41,IsR (.pointer (some (x.add (i*3)))),[6],false⟩,⟨42,IsR (.slice kA kn kc),[7],false⟩,⟨43,(fun z W=>OwB W wr.heap.size z kl),[2,8],false⟩,⟨44,(fun z W=>EmO wr.heap.size z W),[],false⟩,⟨45,IsR (.pointer (some ⟨b,9,none⟩)),[],false⟩,⟨46,IsR (.slice (some x) c.oN c.oC),[11],false⟩,⟨47,IsR (.int .i64 (i:Int)),[],false⟩,⟨48,IsR (.pointer (some (x.add (i*3)))),[12,13],false⟩,⟨49,IsR (.pointer (some ⟨(x.add (i*3)).block,(x.add (i*3)).off+1,none⟩)),[14],false⟩,⟨50,IsR (.slice vA vn vc),[15],false⟩,⟨51,(fun z W=>OwB W wr.heap.size z vl),[10,16],false⟩,⟨52,IsR (.pointer (some ⟨b,9,none⟩)),[],false⟩,⟨53,IsR (.slice (some x) c.oN c.oC),[18],false⟩,⟨54,IsR (.int .i64 (i:Int)),[],false⟩,⟨55,IsR (.pointer (some (x.add (i*3)))),[19,20],false⟩,⟨56,IsR (.pointer (some ⟨(x.add (i*3)).block,(x.add (i*3)).off+2,none⟩)),[21],false⟩,⟨57,IsR (.bool od),[22],false⟩,⟨58,(fun z W=>∃Ax cx Ay cy,z = .agg #[.slice Ax kl.length cx,.slice Ay vl.length cy,.bool od]∧OwB W wr.heap.size (.slice Ax kl.length cx) kl∧OwB W wr.heap.size (.slice Ay vl.length cy) vl),[9,17,23],false⟩,⟨59,(fun z W=>∃G Ax cx Ay cy,z = .slice (some ⟨G,0,none⟩) 1 1∧CbB W G 61 #[.slice Ax kl.length cx,.slice Ay vl.length cy,.bool od]∧wr.heap.size≤G∧OwB W wr.heap.size (.slice Ax kl.length cx) kl∧OwB W wr.heap.size (.slice Ay vl.length cy) vl),[24],false⟩,⟨60,(fun z W=>∃Ax cx Ay cy,OwB W wr.heap.size (.slice Ax kl.length cx) kl∧OwB W wr.heap.size (.slice Ay vl.length cy) vl∧W.ownsRow w.heap.size 61 3 z (i+1) (P.flatMap opL++[.slice Ax kl.length cx,.slice Ay vl.length cy,.bool od])),[1,25],false⟩,⟨61,IsR (.pointer (some ⟨d,9,none⟩)),[],false⟩] (by kernel_rfl) (by kernel_rfl) rfl rfl rfl ⟨?_,?_,?_,?_,?_,?_,?_,?_,?_,?_,?_,?_,?_,?_,?_,?_,?_,?_,?_,?_,?_,?_,?_,?_,?_,?_,?_,?_,trivial⟩ ?_
    · refine okF rfl rfl fun a W hA hb hd=>?_
      have h3:a.tmps[3]?.getD undef = .pointer (some ⟨d,0,none⟩):=gt' hA (by simp) rfl
      go_simp
    · refine okF rfl rfl fun a W hA hb hd=>?_
      have h34:a.tmps[34]?.getD undef = .pointer (some ⟨d,9,none⟩):=gh (hd 0 (by simp) _ rfl)
      have hcc:W.cell? ⟨d,9,none⟩=some (.slice oA i oc):=(KK.out.dst.fr hb (fun ⟨j,_,_,hj⟩=>ND.out hj)).cell (k:=9) rfl
      go_simp
    · refine⟨rfl,fun z W W1 ⟨g,h1,h2⟩ hf=>⟨g,h1,h2.fr hf (fun g2 hg2 ⟨j,_,_,hj⟩=>by have:=VL.out _ hj;have:=own_ge9 h2.own _ hg2;omega)⟩,fun a W hA hb hd=>takes5_plain rfl ?_⟩
      exact Yields.to5 (yields_emO rfl hb.size) _
    · refine okF rfl rfl fun a W hA hb hd=>?_
      have h1:a.tmps[1]?.getD undef = .pointer (some ⟨b,0,none⟩):=gt' hA (by simp) rfl
      go_simp
    · refine okF rfl rfl fun a W hA hb hd=>?_
      have h37:a.tmps[37]?.getD undef = .pointer (some ⟨b,9,none⟩):=gh (hd 3 (by simp) _ rfl)
      have hcc:W.cell? ⟨b,9,none⟩=some (.slice (some x) c.oN c.oC):=by have h9:W.cell? ⟨b,9,none⟩=some (.slice c.oA c.oN c.oC):=(KK.out.call.fr hb (fun ⟨j,_,_,hj⟩=>NB.out hj)).cell (k:=9) rfl;rw[HX.out] at h9;exact h9
      go_simp
    · refine okF rfl rfl fun a W hA hb hd=>?_
      have h4:a.tmps[4]?.getD undef = .int .i64 (i:Int):=gt' hA (by simp) rfl
      go_simp
    · refine okF rfl rfl fun a W hA hb hd=>?_
      have h38:a.tmps[38]?.getD undef = .slice (some x) c.oN c.oC:=gh (hd 4 (by simp) _ rfl)
      have h39:a.tmps[39]?.getD undef = .int .i64 (i:Int):=gh (hd 5 (by simp) _ rfl)
      have hlti:=LTI.out
      have hi0:(0:Int)≤(i:Int):=by omega
      go_simp
    · refine okF rfl rfl fun a W hA hb hd=>?_
      have h40:a.tmps[40]?.getD undef = .pointer (some (x.add (i*3))):=gh (hd 6 (by simp) _ rfl)
      go_simp
    · refine okF rfl rfl fun a W hA hb hd=>?_
      have h41:a.tmps[41]?.getD undef = .pointer (some (x.add (i*3))):=gh (hd 7 (by simp) _ rfl)
      have hcc:W.cell? (x.add (i*3))=some (.slice kA kn kc):=(World.cell?_of_block (hb.block _ (by show (x.add (i*3)).block<_;rw[add_block];exact HXL.out) (by show ¬othF _ _ (x.add (i*3)).block;rw[add_block];exact fun ⟨j,_,_,hj⟩=>NXB.out hj))).trans CE1.out
      go_simp
    · refine⟨rfl,fun z W W1 h2 hf=>OwB.fr h2 hf (fun g2 hg2 ⟨j,_,_,hj⟩=>by have:=VL.out _ hj;have:=own_ge9 h2.own _ hg2;omega),fun a W hA hb hd=>takes5_plain rfl ?_⟩
      have bw:Below w.heap.size w W:=Fr.below (hb.imp fun k ⟨j,_,_,hj⟩=>hj) VG.out KK.out.bel KK.out.bel.size
      exact Yields.to5 (yields_appEW (.tmp 36) (.tmp 42) rfl (hd 2 (by simp) _ rfl) (IK0.out.ab bw) (hd 8 (by simp) _ rfl) BK.out hb.size) _
    · refine⟨rfl,fun z W W1 ⟨g,h1,h2⟩ hf=>⟨g,h1,h2.fr hf (fun g2 hg2 ⟨j,_,_,hj⟩=>by have:=VL.out _ hj;have:=own_ge9 h2.own _ hg2;omega)⟩,fun a W hA hb hd=>takes5_plain rfl ?_⟩
      exact Yields.to5 (yields_emO rfl hb.size) _
    · refine okF rfl rfl fun a W hA hb hd=>?_
      have h1:a.tmps[1]?.getD undef = .pointer (some ⟨b,0,none⟩):=gt' hA (by simp) rfl
      go_simp
    · refine okF rfl rfl fun a W hA hb hd=>?_
      have h45:a.tmps[45]?.getD undef = .pointer (some ⟨b,9,none⟩):=gh (hd 11 (by simp) _ rfl)
      have hcc:W.cell? ⟨b,9,none⟩=some (.slice (some x) c.oN c.oC):=by have h9:W.cell? ⟨b,9,none⟩=some (.slice c.oA c.oN c.oC):=(KK.out.call.fr hb (fun ⟨j,_,_,hj⟩=>NB.out hj)).cell (k:=9) rfl;rw[HX.out] at h9;exact h9
      go_simp
    · refine okF rfl rfl fun a W hA hb hd=>?_
      have h4:a.tmps[4]?.getD undef = .int .i64 (i:Int):=gt' hA (by simp) rfl
      go_simp
    · refine okF rfl rfl fun a W hA hb hd=>?_
      have h46:a.tmps[46]?.getD undef = .slice (some x) c.oN c.oC:=gh (hd 12 (by simp) _ rfl)
      have h47:a.tmps[47]?.getD undef = .int .i64 (i:Int):=gh (hd 13 (by simp) _ rfl)
      have hlti:=LTI.out
      have hi0:(0:Int)≤(i:Int):=by omega
      go_simp
    · refine okF rfl rfl fun a W hA hb hd=>?_
      have h48:a.tmps[48]?.getD undef = .pointer (some (x.add (i*3))):=gh (hd 14 (by simp) _ rfl)
      go_simp
    · refine okF rfl rfl fun a W hA hb hd=>?_
      have h49:a.tmps[49]?.getD undef = .pointer (some ⟨(x.add (i*3)).block,(x.add (i*3)).off+1,none⟩):=gh (hd 15 (by simp) _ rfl)
      have hcc:W.cell? ⟨(x.add (i*3)).block,(x.add (i*3)).off+1,none⟩=some (.slice vA vn vc):=(World.cell?_of_block (hb.block _ (by show (x.add (i*3)).block<_;rw[add_block];exact HXL.out) (by show ¬othF _ _ (x.add (i*3)).block;rw[add_block];exact fun ⟨j,_,_,hj⟩=>NXB.out hj))).trans CE2.out
      go_simp
    · refine⟨rfl,fun z W W1 h2 hf=>OwB.fr h2 hf (fun g2 hg2 ⟨j,_,_,hj⟩=>by have:=VL.out _ hj;have:=own_ge9 h2.own _ hg2;omega),fun a W hA hb hd=>takes5_plain rfl ?_⟩
      have bw:Below w.heap.size w W:=Fr.below (hb.imp fun k ⟨j,_,_,hj⟩=>hj) VG.out KK.out.bel KK.out.bel.size
      exact Yields.to5 (yields_appEW (.tmp 44) (.tmp 50) rfl (hd 10 (by simp) _ rfl) (IV0.out.ab bw) (hd 16 (by simp) _ rfl) BV.out hb.size) _
    · refine okF rfl rfl fun a W hA hb hd=>?_
      have h1:a.tmps[1]?.getD undef = .pointer (some ⟨b,0,none⟩):=gt' hA (by simp) rfl
      go_simp
    · refine okF rfl rfl fun a W hA hb hd=>?_
      have h52:a.tmps[52]?.getD undef = .pointer (some ⟨b,9,none⟩):=gh (hd 18 (by simp) _ rfl)
      have hcc:W.cell? ⟨b,9,none⟩=some (.slice (some x) c.oN c.oC):=by have h9:W.cell? ⟨b,9,none⟩=some (.slice c.oA c.oN c.oC):=(KK.out.call.fr hb (fun ⟨j,_,_,hj⟩=>NB.out hj)).cell (k:=9) rfl;rw[HX.out] at h9;exact h9
      go_simp
    · refine okF rfl rfl fun a W hA hb hd=>?_
      have h4:a.tmps[4]?.getD undef = .int .i64 (i:Int):=gt' hA (by simp) rfl
      go_simp
    · refine okF rfl rfl fun a W hA hb hd=>?_
      have h53:a.tmps[53]?.getD undef = .slice (some x) c.oN c.oC:=gh (hd 19 (by simp) _ rfl)
      have h54:a.tmps[54]?.getD undef = .int .i64 (i:Int):=gh (hd 20 (by simp) _ rfl)
      have hlti:=LTI.out
      have hi0:(0:Int)≤(i:Int):=by omega
      go_simp
    · refine okF rfl rfl fun a W hA hb hd=>?_
      have h55:a.tmps[55]?.getD undef = .pointer (some (x.add (i*3))):=gh (hd 21 (by simp) _ rfl)
      go_simp
    · refine okF rfl rfl fun a W hA hb hd=>?_
      have h56:a.tmps[56]?.getD undef = .pointer (some ⟨(x.add (i*3)).block,(x.add (i*3)).off+2,none⟩):=gh (hd 22 (by simp) _ rfl)
      have hcc:W.cell? ⟨(x.add (i*3)).block,(x.add (i*3)).off+2,none⟩=some (.bool od):=(World.cell?_of_block (hb.block _ (by show (x.add (i*3)).block<_;rw[add_block];exact HXL.out) (by show ¬othF _ _ (x.add (i*3)).block;rw[add_block];exact fun ⟨j,_,_,hj⟩=>NXB.out hj))).trans CE3.out
      go_simp
    · refine⟨rfl,fun z W W1 ⟨Ax,cx,Ay,cy,h1,h2,h3⟩ hf=>⟨Ax,cx,Ay,cy,h1,h2.fr hf (fun g2 hg2 ⟨j,_,_,hj⟩=>by have:=VL.out _ hj;have:=own_ge9 h2.own _ hg2;omega),h3.fr hf (fun g2 hg2 ⟨j,_,_,hj⟩=>by have:=VL.out _ hj;have:=own_ge9 h3.own _ hg2;omega)⟩,fun a W hA hb hd=>takes5_plain rfl ?_⟩
      have ox:OwB W wr.heap.size (a.eval (.tmp 43)) kl:=hd 9 (by simp) _ rfl
      have oy:OwB W wr.heap.size (a.eval (.tmp 51)) vl:=hd 17 (by simp) _ rfl
      obtain⟨Ax,cx,ex,_,_⟩:=ox.shape
      obtain⟨Ay,cy,ey,_,_⟩:=oy.shape
      rw[ex] at ox
      rw[ey] at oy
      have h43:a.tmps[43]?.getD undef = .slice Ax kl.length cx:=(eval_get a 43).trans ex
      have h51:a.tmps[51]?.getD undef = .slice Ay vl.length cy:=(eval_get a 51).trans ey
      have h57:a.tmps[57]?.getD undef = .bool od:=gh (hd 23 (by simp) _ rfl)
      refine Yields.to5 (yields_value (.agg #[.slice Ax kl.length cx,.slice Ay vl.length cy,.bool od]) ?_ ⟨Ax,cx,Ay,cy,rfl,ox,oy⟩) _
      go_simp
    · refine⟨rfl,fun z W W1 ⟨G1,Ax,cx,Ay,cy,h1,h4,h5,h2,h3⟩ hf=>⟨G1,Ax,cx,Ay,cy,h1,h4.fr hf (fun ⟨j,_,_,hj⟩=>by have:=VL.out _ hj;omega),h5,h2.fr hf (fun g2 hg2 ⟨j,_,_,hj⟩=>by have:=VL.out _ hj;have:=own_ge9 h2.own _ hg2;omega),h3.fr hf (fun g2 hg2 ⟨j,_,_,hj⟩=>by have:=VL.out _ hj;have:=own_ge9 h3.own _ hg2;omega)⟩,fun a W hA hb hd=>takes5_plain rfl ?_⟩
      obtain⟨Ax,cx,Ay,cy,hz,ox,oy⟩:=hd 24 (by simp) _ rfl
      have h58:a.tmps[58]?.getD undef = .agg #[.slice Ax kl.length cx,.slice Ay vl.length cy,.bool od]:=(eval_get a 58).trans hz
      refine .inl ⟨.slice (some ⟨W.heap.size,0,none⟩) 1 1,W.alloc (.cells #[.slice Ax kl.length cx,.slice Ay vl.length cy,.bool od] 61),?_,⟨_,Ax,cx,Ay,cy,rfl,CbB.new _ _ _,hb.size,ox.ab (alB),oy.ab (alB)⟩,Fr.of (alB) _⟩
      go_simp
    · refine⟨rfl,fun z W W1 ⟨Ax,cx,Ay,cy,h2,h3,h4⟩ hf=>⟨Ax,cx,Ay,cy,h2.fr hf (fun g2 hg2 ⟨j,_,_,hj⟩=>by have:=VL.out _ hj;have:=own_ge9 h2.own _ hg2;omega),h3.fr hf (fun g2 hg2 ⟨j,_,_,hj⟩=>by have:=VL.out _ hj;have:=own_ge9 h3.own _ hg2;omega),row_fr h4 hf (fun k hk ⟨j,hj,hj2,_⟩=>hj hj2)⟩,fun a W hA hb hd=>takes5_plain rfl ?_⟩
      have hs:a.eval (.tmp 35) = .slice oA i oc:=hd 1 (by simp) _ rfl
      obtain⟨Gs,Ax,cx,Ay,cy,he,hcb,hGs,ox,oy⟩:=hd 25 (by simp) _ rfl
      have hx:a.eval (.tmp 59) = .slice (some ⟨Gs,0,none⟩) 1 1:=he
      have hown:=row_fr R0.out hb (fun k hk ⟨j,hj,hj2,_⟩=>hj hj2)
      obtain⟨v1,W1,hrun,r1,r2,_⟩:=run_append_own (P:=Tryz.prog) W w.heap.size 35 35 61 j0 _ 3 56 Tryz.underlying35 hj0 hjz0 hjz1 hjz2 rfl (by decide) (.slice oA i oc) i (P.flatMap opL) hown ⟨Gs,0,none⟩ 1 1 [.slice Ax kl.length cx,.slice Ay vl.length cy,.bool od] rfl (row_at hcb) (by simp[Value.oneCell']) (by have:=IB.out.1;simp only[maxLen];omega) (by have:=IB.out.2;omega) (Nat.le_trans KK.out.bel.size hb.size)
      refine .inl ⟨v1,W1,?_,⟨Ax,cx,Ay,cy,ox.fr (Fr.grown r2) (fun g2 hg2 hk=>by have:=VL.out _ hk;have:=own_ge9 ox.own _ hg2;omega),oy.fr (Fr.grown r2) (fun g2 hg2 hk=>by have:=VL.out _ hk;have:=own_ge9 oy.own _ hg2;omega),r1⟩,(Fr.grown r2).imp fun k hk=>⟨rfl,hk⟩⟩
      unfold execOp
      simp only[resolve,invoke,builtin,Sem.run_bind,Sem.run_pure,Result.andThen_ok,List.map_toArray,List.map_cons,List.map_nil,hs,hx,hrun]
    · refine okF rfl rfl fun a W hA hb hd=>?_
      have h3:a.tmps[3]?.getD undef = .pointer (some ⟨d,0,none⟩):=gt' hA (by simp) rfl
      go_simp
    intro vs2 w6 hR hb
    have FR:Hid (Fr wr w6 (fun k=>(Value.slice oA i oc).ownBlock=some k)):=zz (hb.imp fun k ⟨j,_,hj⟩=>hj)
    obtain⟨Ax,cx,Ay,cy,ox,oy,hrow⟩:(∃Ax cx Ay cy,OwB w6 wr.heap.size (.slice Ax kl.length cx) kl∧OwB w6 wr.heap.size (.slice Ay vl.length cy) vl∧w6.ownsRow w.heap.size 61 3 (vs2 60) (i+1) (P.flatMap opL++[.slice Ax kl.length cx,.slice Ay vl.length cy,.bool od])):=hR 26 _ rfl
    have e34:vs2 34 = .pointer (some ⟨d,9,none⟩):=hR 0 _ rfl
    have e35:vs2 35 = .slice oA i oc:=hR 1 _ rfl
    have e37:vs2 37 = .pointer (some ⟨b,9,none⟩):=hR 3 _ rfl
    have e38:vs2 38 = .slice (some x) c.oN c.oC:=hR 4 _ rfl
    have e39:vs2 39 = .int .i64 (i:Int):=hR 5 _ rfl
    have e40:vs2 40 = .pointer (some (x.add (i*3))):=hR 6 _ rfl
    have e41:vs2 41 = .pointer (some (x.add (i*3))):=hR 7 _ rfl
    have e42:vs2 42 = .slice kA kn kc:=hR 8 _ rfl
    have e45:vs2 45 = .pointer (some ⟨b,9,none⟩):=hR 11 _ rfl
    have e46:vs2 46 = .slice (some x) c.oN c.oC:=hR 12 _ rfl
    have e47:vs2 47 = .int .i64 (i:Int):=hR 13 _ rfl
    have e48:vs2 48 = .pointer (some (x.add (i*3))):=hR 14 _ rfl
    have e49:vs2 49 = .pointer (some ⟨(x.add (i*3)).block,(x.add (i*3)).off+1,none⟩):=hR 15 _ rfl
    have e50:vs2 50 = .slice vA vn vc:=hR 16 _ rfl
    have e52:vs2 52 = .pointer (some ⟨b,9,none⟩):=hR 18 _ rfl
    have e53:vs2 53 = .slice (some x) c.oN c.oC:=hR 19 _ rfl
    have e54:vs2 54 = .int .i64 (i:Int):=hR 20 _ rfl
    have e55:vs2 55 = .pointer (some (x.add (i*3))):=hR 21 _ rfl
    have e56:vs2 56 = .pointer (some ⟨(x.add (i*3)).block,(x.add (i*3)).off+2,none⟩):=hR 22 _ rfl
    have e57:vs2 57 = .bool od:=hR 23 _ rfl
    have e61:vs2 61 = .pointer (some ⟨d,9,none⟩):=hR 27 _ rfl
    simp only[List.map_cons,List.map_nil,List.foldl_cons,List.foldl_nil,List.length_cons,List.length_nil,List.drop_succ_cons,List.drop_zero,Act.put,List.setIfInBounds_toArray,List.set_cons_zero,List.set_cons_succ,e34,e35,e37,e38,e39,e40,e41,e42,e45,e46,e47,e48,e49,e50,e52,e53,e54,e55,e56,e57,e61]
    clear hR hb e34 e35 e37 e38 e39 e40 e41 e42 e45 e46 e47 e48 e49 e50 e52 e53 e54 e55 e56 e57 e61
    generalize vs2 36=q36 at *
    generalize vs2 43=q43 at *
    generalize vs2 44=q44 at *
    generalize vs2 51=q51 at *
    generalize vs2 58=q58 at *
    generalize vs2 59=q59 at *
    generalize vs2 60=q60 at *
    obtain⟨A7,c7,rfl⟩:=row_shape hrow
    have K6:Hid (CC w c b d (#[.int .i64 c.kind,.int .u32 (c.ten:Int),.slice A2 c.sec.l.length k2,.int .i64 c.quota,.int .i64 c.n,.int .u64 (c.hd:Int),.int .u64 (c.oth:Int),.int .u64 (c.sn:Int),.int .u8 (c.rt:Int),.slice oA i oc,.slice A10 c.key.l.length k10,.slice A11 c.frm.l.length k11,.slice A12 c.upto.l.length k12,.bool c.back]) w6):=zz ⟨KK.out.call.fr FR.out NB.out,KK.out.dst.fr FR.out ND.out,KK.out.ne,KK.out.low,Fr.below FR.out VG.out KK.out.bel KK.out.bel.size⟩
    have RR6:=zz (RR.out.fr FR.out NR.out)
    have up:∀{v:Value} {l:List Nat},OwB wr w.heap.size v l→OwB w6 w.heap.size v l:=fun {v l} hz=>hz.fr FR.out (fun k hk e=>row_ne2 R0.out hz.own (by decide) k hk e)
    have PP6:Hid (PsO w6 w.heap.size (.slice A7 (i+1) c7) (P++[(⟨⟨Ax,kl.length,cx,kl⟩,⟨Ay,vl.length,cy,vl⟩,od⟩:OpP)])):=zz ⟨by
     rw[List.length_append,List.length_singleton,PL.out,List.flatMap_append];exact hrow,fun q hq=>by
     rcases List.mem_append.1 hq with hq | hq
     · exact⟨up (PP.out.el q hq).1,up (PP.out.el q hq).2⟩
     · rw[List.mem_singleton] at hq
       subst hq
       exact⟨ox.lower KK.out.bel.size,oy.lower KK.out.bel.size⟩⟩
    have T2:=zz (up Q2.out)
    have T10:=zz (up Q10.out)
    have T11:=zz (up Q11.out)
    have T12:=zz (up Q12.out)
    have PE6:Hid ((P++[(⟨⟨Ax,kl.length,cx,kl⟩,⟨Ay,vl.length,cy,vl⟩,od⟩:OpP)]).map OpP.er=(c.ops.take (i+1)).map OpP.er):=zz (by
     rw[List.take_add_one,HO.out,List.map_append,List.map_append,PE.out]
     congr 1
     have e1:=IK0.out.len
     have e2:=IV0.out.len
     have h1:=HOK.out
     have h2:=HOV.out
     have h3:=HOD.out
     simp[OpP.er,SlA.er,h1,h2,h3,e1,e2])
    have x9:=K6.out.dst.cell (k:=9) rfl
    have f9:=K6.out.dst.free 9
    have K7:=zz (K6.out.set 9 (.slice A7 (i+1) c7))
    have PP7:=zz (PP6.out.setC (k:=9) (u:=.slice A7 (i+1) c7) K6.out.dst)
    have T27:=zz (T2.out.setC (k:=9) (u:=.slice A7 (i+1) c7) K6.out.dst)
    have T107:=zz (T10.out.setC (k:=9) (u:=.slice A7 (i+1) c7) K6.out.dst)
    have T117:=zz (T11.out.setC (k:=9) (u:=.slice A7 (i+1) c7) K6.out.dst)
    have T127:=zz (T12.out.setC (k:=9) (u:=.slice A7 (i+1) c7) K6.out.dst)
    have R7:=zz (RR6.out.far N1.out (k:=9) (.slice A7 (i+1) c7))
    have PL7:Hid ((P++[(⟨⟨Ax,kl.length,cx,kl⟩,⟨Ay,vl.length,cy,vl⟩,od⟩:OpP)]).length=i+1):=zz (by rw[List.length_append,List.length_singleton,PL.out])
    have hlti:=LTI.out
    clear hrow ox oy up
    go_wp2_with fail
    go_roundw
    case rel=>exact⟨i+1,_,A7,c7,KL.out,by go_num,PL7.out,PE6.out,K7.out,PP7.out,T27.out,T107.out,T117.out,T127.out,R7.out⟩
    case measure=>simp[intOf];have:=KL.out;omega
  · have hio:i=c.oN:=by omega
    have hnl:¬(i:Int)<(c.oN:Int):=by omega
    have hnd:decide ((i:Int)<(c.oN:Int))=false:=decide_eq_false hnl
    have HIO:=zz hio
    have hte:c.ops.take i=c.ops:=List.take_of_length_le (by rw[HL.out];omega)
    rw[hte] at PE
    have y0:wr.cell? ⟨d,0,none⟩=some (.int .i64 c.kind):=hk.dst.cell (k:=0) rfl
    have y1:wr.cell? ⟨d,1,none⟩=some (.int .u32 (c.ten:Int)):=hk.dst.cell (k:=1) rfl
    have y2:wr.cell? ⟨d,2,none⟩=some (.slice A2 c.sec.l.length k2):=hk.dst.cell (k:=2) rfl
    have y3:wr.cell? ⟨d,3,none⟩=some (.int .i64 c.quota):=hk.dst.cell (k:=3) rfl
    have y4:wr.cell? ⟨d,4,none⟩=some (.int .i64 c.n):=hk.dst.cell (k:=4) rfl
    have y5:wr.cell? ⟨d,5,none⟩=some (.int .u64 (c.hd:Int)):=hk.dst.cell (k:=5) rfl
    have y6:wr.cell? ⟨d,6,none⟩=some (.int .u64 (c.oth:Int)):=hk.dst.cell (k:=6) rfl
    have y7:wr.cell? ⟨d,7,none⟩=some (.int .u64 (c.sn:Int)):=hk.dst.cell (k:=7) rfl
    have y8:wr.cell? ⟨d,8,none⟩=some (.int .u8 (c.rt:Int)):=hk.dst.cell (k:=8) rfl
    have y9:wr.cell? ⟨d,9,none⟩=some (.slice oA i oc):=hk.dst.cell (k:=9) rfl
    have y10:wr.cell? ⟨d,10,none⟩=some (.slice A10 c.key.l.length k10):=hk.dst.cell (k:=10) rfl
    have y11:wr.cell? ⟨d,11,none⟩=some (.slice A11 c.frm.l.length k11):=hk.dst.cell (k:=11) rfl
    have y12:wr.cell? ⟨d,12,none⟩=some (.slice A12 c.upto.l.length k12):=hk.dst.cell (k:=12) rfl
    have y13:wr.cell? ⟨d,13,none⟩=some (.bool c.back):=hk.dst.cell (k:=13) rfl
    clear hi hlt hPl hPe hk hp q2 q10 q11 q12 hr hio hte
    go_wp2_with (first
     | (with_reducible refine wpList_storeC (o:=⟨none,.store _ (.tmp 2) (.tmp 62),_,_,_,_⟩) ?_ 37 (.tmp 2) (.tmp 62) ?_ (b+1) ?_ (#[.int .i64 c.kind,.int .u32 (c.ten:Int),.slice A2 c.sec.l.length k2,.int .i64 c.quota,.int .i64 c.n,.int .u64 (c.hd:Int),.int .u64 (c.oth:Int),.int .u64 (c.sn:Int),.int .u8 (c.rt:Int),.slice oA i oc,.slice A10 c.key.l.length k10,.slice A11 c.frm.l.length k11,.slice A12 c.upto.l.length k12,.bool c.back]) ?_ (cs:=#[.int .i64 0,.int .u32 0,.slice none 0 0,.int .i64 0,.int .i64 0,.int .u64 0,.int .u64 0,.int .u64 0,.int .u8 0,.slice none 0 0,.slice none 0 0,.slice none 0 0,.slice none 0 0,.bool false]) (t:=37) RR.out (szCallZ _ _ _ _ _ _ _ _ _ _ _ _ _ _) ?_ (by simp[Value.oneCell']) ?_
        · rfl
        · rfl
        · rfl
        · rfl
        · rfl
        intro wz hwz
        have QZ:Hid (CbB wz (b+1) 37 (#[.int .i64 c.kind,.int .u32 (c.ten:Int),.slice A2 c.sec.l.length k2,.int .i64 c.quota,.int .i64 c.n,.int .u64 (c.hd:Int),.int .u64 (c.oth:Int),.int .u64 (c.sn:Int),.int .u8 (c.rt:Int),.slice oA i oc,.slice A10 c.key.l.length k10,.slice A11 c.frm.l.length k11,.slice A12 c.upto.l.length k12,.bool c.back])):=zz (by rw[hwz];exact CbB.row RR.out _)
        have FZ:Hid (Fr wr wz (fun k=>k=b+1)):=zz (by rw[hwz];exact fr_rowX _ _ _)
        clear hwz))
    refine bodyPost_ret (call_results Tryz.results12 _ _ (b+1) (#[.int .i64 c.kind,.int .u32 (c.ten:Int),.slice A2 c.sec.l.length k2,.int .i64 c.quota,.int .i64 c.n,.int .u64 (c.hd:Int),.int .u64 (c.oth:Int),.int .u64 (c.sn:Int),.int .u8 (c.rt:Int),.slice oA i oc,.slice A10 c.key.l.length k10,.slice A11 c.frm.l.length k11,.slice A12 c.upto.l.length k12,.bool c.back]) rfl QZ.out rfl) rfl ?_
    have up:∀{v:Value} {l:List Nat},OwB wr w.heap.size v l→OwB wz w.heap.size v l:=fun {v l} h=>h.fr FZ.out fun g hg e=>own_neZ h RR.out (by decide) (by rw[hg,e])
    have hp:PsO wz w.heap.size (.slice oA i oc) P:=⟨row_fr PP.out.row FZ.out (fun g hg e=>row_ne PP.out.row RR.out (by decide) (by rw[hg,e])),fun o ho=>⟨up (PP.out.el o ho).1,up (PP.out.el o ho).2⟩⟩
    have tg:∀g,w.heap.size≤g→cutTg O w.heap.size g=some (0,0):=fun g hg=>cutTg_at hg
    have hnn:∀o∈P,o.k.l.length=o.k.n∧o.v.l.length=o.v.n:=er_len PE.out fun o ho=>by
     obtain⟨j,hj⟩:=List.getElem?_of_mem ho
     obtain⟨_,_,_,_,_,_,h6,h7⟩:=HC.out.ops.cel j o hj
     exact⟨h6.len,h7.len⟩
    have hbb:∀o∈P,o.k.n≤9223372036854775807∧o.v.n≤9223372036854775807:=fun o ho=>by
     have:o.er∈c.ops.map OpP.er:=by rw[←PE.out];exact List.mem_map.2 ⟨o,ho,rfl⟩
     obtain⟨q,hq1,hq2⟩:=List.mem_map.1 this
     obtain⟨s1,s2⟩:=HS.out.ops q hq1
     obtain⟨j,hj⟩:=List.getElem?_of_mem hq1
     obtain⟨_,_,_,_,_,_,h6,h7⟩:=HC.out.ops.cel j q hj
     have t1:=h6.1.2.1
     have t2:=h7.1.2.1
     unfold OpP.er SlA.er at hq2
     simp only[OpP.mk.injEq,SlA.mk.injEq,true_and] at hq2
     obtain⟨⟨a1,a2⟩,⟨a3,a4⟩,_⟩:=hq2
     omega
    have b2:=up Q2.out
    have b10:=up Q10.out
    have b11:=up Q11.out
    have b12:=up Q12.out
    have l2:=HC.out.sec.len
    have l10:=HC.out.key.len
    have l11:=HC.out.frm.len
    have l12:=HC.out.upto.len
    have m2:=HC.out.sec.1.2.1
    have m10:=HC.out.key.1.2.1
    have m11:=HC.out.frm.1.2.1
    have m12:=HC.out.upto.1.2.1
    have s2:=HS.out.sec
    have s10:=HS.out.key
    have s11:=HS.out.frm
    have s12:=HS.out.upto
    refine⟨⟨c.kind,c.ten,⟨A2,c.sec.l.length,k2,c.sec.l⟩,c.quota,c.n,c.hd,c.oth,c.sn,c.rt,oA,i,oc,P,⟨A10,c.key.l.length,k10,c.key.l⟩,⟨A11,c.frm.l.length,k11,c.frm.l⟩,⟨A12,c.upto.l.length,k12,c.upto.l⟩,c.back⟩,rfl,?_,?_,?_,?_⟩
    · unfold CallP.er SlA.er
      simp only[l2,l10,l11,l12,HIO.out,PE.out]
    · exact⟨⟨HC.out.ok.kind,HC.out.ok.ten,HC.out.ok.hd,HC.out.ok.oth,HC.out.ok.sn,HC.out.ok.rt⟩,b2.isB rfl,b10.isB rfl,b11.isB rfl,b12.isB rfl,hp.opsB PL.out hnn⟩
    · refine⟨SpB.own b2 rfl tg (by show c.sec.l.length≤9223372036854775807;omega),SpB.own b10 rfl tg (by show c.key.l.length≤9223372036854775807;omega),SpB.own b11 rfl tg (by show c.frm.l.length≤9223372036854775807;omega),SpB.own b12 rfl tg (by show c.upto.l.length≤9223372036854775807;omega),PL.out,?_,fun j o ho=>?_⟩
      · have:=HS.out.cap
        have:=HC.out.ops.cap
        have:=HIO.out
        simp only
        omega
      · obtain⟨g,h1,h2,h3,_⟩:=hp.at PL.out ho
        obtain⟨e1,e2⟩:=hp.el o (List.mem_of_getElem? ho)
        obtain⟨n1,n2⟩:=hnn o (List.mem_of_getElem? ho)
        obtain⟨z1,z2⟩:=hbb o (List.mem_of_getElem? ho)
        exact⟨g,h1,h2,h3,SpB.own e1 n1 tg z1,SpB.own e2 n2 tg z2,tg g (own_ge9 hp.row g (by rw[h1];rfl))⟩
    · exact Fr.below FZ.out (fun q hq=>by have:=HBX.out;omega) KK.out.bel KK.out.bel.size
end Go.Proofs.YtgdhinjhbjolgaaGreat
