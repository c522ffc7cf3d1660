/-
  Parts of the proof, joined.
-/
import Derived.Test.YtgdhinjhbjolgaaGreatBdb
import Derived.Test.YtgdhinjhbjolgaaGreatBda
import Derived.Laws.ResultCell
import Derived.Sort.WalkA
import Derived.Lib.Walk
import Derived.WalkKit
import Derived.BigQuiet
import Derived.Deep.Draws
import Derived.Deep.QuietTactic
import Derived.Sort.WalkB12
import Derived.Sort.WalkD1
import Derived.Sort.WalkD2
import Derived.Deep.RegionWith
import Derived.Sort.Walk7a
import Derived.Sort.Walk7
import Derived.Ground.So_math_bits_Len64
import Derived.Deep.Light
import Derived.Sort.Walk11
import Derived.Sort.WalkB2
import Derived.Sort.WalkB3
import Derived.Sort.WalkC
import Derived.Sort.WalkC4
import Derived.Sort.WalkA6
import Derived.Sort.Walk13
import Derived.Sort.LotD6
import Derived.Sort.WalkA14
import Derived.Sort.LotD7
import Derived.Sort.AssemblyPlain
import Derived.RangeFuncNested
import Derived.RangeFuncBound
import Derived.RangeFuncCalls
import Derived.RangeFuncLeaves
import Derived.RangeFuncBox
import Derived.OwnWalkIn
import Derived.TacticsInMore
import Derived.LoopNIn
import Derived.LoopIn
import Derived.Sort.LoopGhostIn
import Derived.Sort.MapsRangeIn
import Derived.Maps.OwnIn
import Derived.Shelf.Abstract
namespace Go.Proofs.YtgdhinjhbjolgaaGreat
set_option maxHeartbeats 2000000
open Go.RowKit
set_option linter.unusedVariables false
theorem grown_of {w w':World} (hb:Below w.heap.size w w') (row:Option Nat):w.grownBy w' row:=⟨hb.os,hb.tape,hb.output,hb.size,fun i hi _=>hb.block i hi⟩
theorem grown_cell (w:World) (g k:Nat) (v:Value):w.grownBy (w.setCell ⟨g,k,none⟩ v) (some g):=⟨rfl,rfl,rfl,by simp,fun i hi hn=>Below.heap_setCell w ⟨g,k,none⟩ v i (fun e=>hn (by rw[e]))⟩
theorem row_at {W:World} {G:Nat} {T:TypeId} {cs:List Value} (h:CbB W G T cs.toArray):∀(j:Nat) u,cs[j]? = some u→W.cell? ((⟨G,0,none⟩:Addr).add j)=some u:=fun j u hj=>by
 rw[Addr.add_mid,Nat.zero_add]
 exact h.cell (by simpa using hj)
theorem own_ge9 {w:World} {B n s:Nat} {e:TypeId} {v:Value} {xs:List Value} (h:w.ownsRow B e s v n xs):∀g,v.ownBlock=some g→B≤g:=by
 rcases h.2 with ⟨rfl,_⟩ | ⟨g,cap,cur,rfl,hg,_⟩
 · intro g hg;cases hg
 · intro g' hg'
   have:g=g':=by injection hg'
   omega
theorem row_shape {w:World} {B n s:Nat} {e:TypeId} {v:Value} {xs:List Value} (h:w.ownsRow B e s v n xs):∃A c,v = .slice A n c:=by
 rcases h.2 with ⟨rfl,h0⟩ | ⟨g,cap,cur,rfl,_⟩
 · subst h0
   exact⟨_,_,rfl⟩
 · exact⟨_,_,rfl⟩
theorem row_low {w:World} {B B' n s:Nat} {e:TypeId} {v:Value} {xs:List Value} (h:w.ownsRow B e s v n xs) (hB:B'≤B):w.ownsRow B' e s v n xs:=by
 refine⟨h.1,?_⟩
 rcases h.2 with hn | ⟨g,cap,cur,e1,hb',rest⟩
 · exact .inl hn
 · exact .inr ⟨g,cap,cur,e1,by omega,rest⟩
section
variable {w w':World} {F:Nat→Prop}
theorem CbB.fr {g:Nat} {T:TypeId} {cs:Array Value} (h:CbB w g T cs) (hf:Fr w w' F) (hn:¬F g):CbB w' g T cs:=(hf.block g h.lt hn).trans h
theorem IsB.fr {A:Option Addr} {n c:Nat} {l:List Nat} (h:IsB w A n c l) (hf:Fr w w' F) (hn:∀x,A=Option.some x→¬F x.block):IsB w' A n c l:=
 ⟨h.1.keep hf.size fun x i e hi=>World.cell?_of_block (by
  rw[add_block]
  obtain⟨y,e',hy,_⟩:=h.1.at (by omega)
  rw[e] at e'
  injection e' with e'
  exact hf.block _ (by rw[e'];exact hy) (hn x e)),h.2⟩
theorem OwB.fr {B:Nat} {v:Value} {l:List Nat} (h:OwB w B v l) (hf:Fr w w' F) (hn:∀g,v.ownBlock=some g→¬F g):OwB w' B v l:=by
 refine⟨⟨h.own.1,?_⟩,h.byt⟩
 rcases h.own.2 with hx | ⟨g,cap,cur,rfl,hb,hh,rest⟩
 · exact .inl hx
 · have hg:g<w.heap.size:=(Array.getElem?_eq_some_iff.1 hh).1
   exact .inr ⟨g,cap,cur,rfl,hb,(hf.block g hg (hn g rfl)).trans hh,rest⟩
theorem row_fr {B n s:Nat} {e:TypeId} {v:Value} {xs:List Value} (h:w.ownsRow B e s v n xs) (hf:Fr w w' F) (hn:∀g,v.ownBlock=some g→¬F g):w'.ownsRow B e s v n xs:=by
 refine⟨h.1,?_⟩
 rcases h.2 with hx | ⟨g,cap,cur,rfl,hb,hh,rest⟩
 · exact .inl hx
 · have hg:g<w.heap.size:=(Array.getElem?_eq_some_iff.1 hh).1
   exact .inr ⟨g,cap,cur,rfl,hb,(hf.block g hg (hn g rfl)).trans hh,rest⟩
theorem row_ne {B n s g:Nat} {e T:TypeId} {v:Value} {xs:List Value} {cs:Array Value} (h:w.ownsRow B e s v n xs) (hc:CbB w g T cs) (hT:T≠e):v.ownBlock≠some g:=by
 intro he
 rcases h.2 with ⟨rfl,_⟩ | ⟨g',cap,cur,rfl,_,hh,_⟩
 · cases he
 · have:g'=g:=by injection he
   subst this
   unfold CbB at hc
   rw[hc] at hh
   injection hh with hh
   injection hh with h1 h2
   exact hT h2
end
def u64V (n:Nat):Value:=.int .u64 (n:Int)
def u64Ok (n:Nat):Prop:=n<18446744073709551616
theorem u64_wf {n:Nat} (h:u64Ok n):(Lit.int .u64 (n:Int)).wf=true:=by
 unfold u64Ok at h
 have e3:IntKind.u64.min=0:=rfl
 have e4:IntKind.u64.max=18446744073709551615:=rfl
 simp only[Lit.wf,Bool.and_eq_true,decide_eq_true_eq]
 omega
theorem u64_K:KeyK Tryz.prog 33 u64V u64Ok where
 keyed:=Maps.int_keyed Tryz.underlying33
 of:=fun h=>⟨_,Maps.keyOf_int_mk Tryz.underlying33 (u64_wf h)⟩
 inj:=fun {x y} h=>by
  unfold u64V at h
  injection h with _ h
  omega
theorem eq_map1 (d m:Nat) (W:World):(Op.equalIn (d+1) 93 (.map (some m)) (.map none)).run Tryz.prog W = .ok false W:=by
 unfold Op.equalIn
 simp[run_underlying Tryz.underlying93,Result.andThen]
theorem eq_map0 (d:Nat) (W:World):(Op.equalIn (d+1) 93 (.map none) (.map none)).run Tryz.prog W = .ok true W:=by
 unfold Op.equalIn
 simp[run_underlying Tryz.underlying93,Result.andThen]
theorem map_ne (m:Nat) (W:World):(binOp .eql 93 (.map (some m)) (.map none)).run Tryz.prog W = .ok (.bool false) W:=by
 have h:=eq_map1 9999 m W
 simp only[binOp,Op.equal,Op.maxDepth,Sem.run_bind,h,Result.andThen_ok,Sem.run_pure]
theorem map_eq (W:World):(binOp .eql 93 (.map none) (.map none)).run Tryz.prog W = .ok (.bool true) W:=by
 have h:=eq_map0 9999 W
 simp only[binOp,Op.equal,Op.maxDepth,Sem.run_bind,h,Result.andThen_ok,Sem.run_pure]
abbrev CpL:=List (Nat×(Nat×Nat))
def hdV (x:Nat×Nat):Value:=.agg #[.int .u8 (x.1:Int),.int .u64 (x.2:Int)]
def cpV (l:CpL):List (Nat×Value):=l.map fun p=>(p.1,hdV p.2)
def getC (h:Nat) (l:CpL):Option (Nat×Nat):=(l.find? fun p=>decide (p.1=h)).map (·.2)
theorem look_cp (h:Nat):∀l:CpL,lookL h (cpV l)=(getC h l).map hdV
 | []=>rfl
 | p::r=>by
   have ih:=look_cp h r
   unfold lookL getC cpV at ih⊢
   rw[List.map_cons]
   by_cases e:p.1=h
   · rw[List.find?_cons_of_pos (by simpa using e),List.find?_cons_of_pos (by simpa using e)];rfl
   · rw[List.find?_cons_of_neg (by simpa using e),List.find?_cons_of_neg (by simpa using e)];exact ih
theorem getC_none {h:Nat} {l:CpL} (hn:∀p∈l,p.1≠h):getC h l=none:=by
 unfold getC
 rw[Option.map_eq_none_iff,List.find?_eq_none]
 simpa using hn
theorem zero_hd (w:World):(zeroValue 96).run Tryz.prog w = .ok (hdV (0,0)) w:=by kernel_rfl
structure CpB (w:World) (B c:Nat) (mo:Option Nat) (made:Nat) (l:CpL):Prop where
 box:CbB w c 98 #[.map mo,.int .u64 (made:Int)]
 low:B≤w.heap.size
 map:∀m,mo=some m→B≤m∧MapB u64V u64Ok w m (cpV l)
 nil:mo=none→l=[]
 le:∀p∈l,1≤p.1∧p.1≤made
section
variable {w w':World} {B c made:Nat} {mo:Option Nat} {l:CpL}
theorem CpB.ab (h:CpB w B c mo made l) (hb:Below w.heap.size w w'):CpB w' B c mo made l:=
 ⟨h.box.ab hb,Nat.le_trans h.low hb.size,fun m hm=>⟨(h.map m hm).1,(h.map m hm).2.ab hb⟩,h.nil,h.le⟩
theorem CpB.look (h:CpB w B c mo made l) {k:Nat} (hk:u64Ok k):(Instr.lookup 93 (.map mo) (.int .u64 (k:Int)) true).run Tryz.prog w = .ok (.tuple #[hdV ((getC k l).getD (0,0)),.bool (getC k l).isSome]) w:=by
 cases mo with
 | none=>
   rw[h.nil rfl]
   exact look_nil (x:=k) u64_K Tryz.underlying93 hk (zero_hd w) true
 | some m=>
   have hm:=(h.map m rfl).2
   have hl:=look_cp k l
   cases hg:getC k l with
   | none=>rw[hg] at hl;exact hm.look_none (x:=k) u64_K Tryz.underlying93 hk hl (zero_hd w) true
   | some x=>rw[hg] at hl;exact hm.look_some (x:=k) u64_K Tryz.underlying93 hk hl true
theorem CpB.len (h:CpB w B c mo made l) (ty:TypeId):(Builtin.len_ #[93] ty #[.map mo]).run Tryz.prog w = .ok (.int .i64 (l.length:Int)) w:=by
 cases mo with
 | none=>rw[h.nil rfl];simp[Builtin.len_,run_underlying Tryz.underlying93,Result.andThen,goInt]
 | some m=>
   have:=(h.map m rfl).2.len Tryz.underlying93 ty
   simpa[cpV] using this
theorem CpB.new (w:World) (B:Nat) (hB:B≤w.heap.size):CpB (w.alloc (.cells #[.map none,.int .u64 0] 98)) B w.heap.size none 0 []:=
 ⟨CbB.new _ _ _,Nat.le_trans hB (by simp),fun m hm=>(by cases hm),fun _=>rfl,fun p hp=>(by cases hp)⟩
end
theorem capsNew_any (w:World):Calls Tryz.prog 26 #[] w fun e w'=>e = .returned (.pointer (some ⟨w.heap.size,0,none⟩))∧CpB w' w.heap.size w.heap.size none 0 []∧Below w.heap.size w w':=by
 go_enter Tryz.func26,Tryz.ntmps26
 go_wp2_with fail
 go_ret
 exact⟨rfl,CpB.new w _ (Nat.le_refl _),(Below.refl _ _).alloc (Nat.le_refl _) _⟩
def findP (k:Nat) (l:CpL):(Nat×Nat)×Nat:=((getC k l).getD (0,0),if (getC k l).isSome=true then 0 else 7)
set_option maxRecDepth 100000 in
theorem find_any (B c made k:Nat) (mo:Option Nat) (l:CpL) (w:World) (h:CpB w B c mo made l) (hk:u64Ok k):
 Calls Tryz.prog 107 #[.pointer (some ⟨c,0,none⟩),.int .u64 (k:Int)] w fun e w'=>e = .returned (.tuple #[hdV (findP k l).1,.int .i64 ((findP k l).2:Int)])∧Below w.heap.size w w':=by
 have ha:Below w.heap.size w (w.alloc (.cells #[.int .u8 0,.int .u64 0] 96)):=(Below.refl _ _).alloc (Nat.le_refl _) _
 have hlk:=(h.ab ha).look hk
 have hc:=(h.ab ha).box.cell (k:=0) rfl
 unfold findP
 generalize (getC k l).getD (0,0)=x at *
 generalize (getC k l).isSome=b at *
 unfold hdV at hlk⊢
 clear h hk ha
 cases b
 · go_enter Tryz.func107,Tryz.ntmps107
   go_wp2_with fail
   (try simp only[Exit.inBlock,Exit.then])
   refine bodyPost_ret (v:=.tuple #[.agg #[.int .u8 (x.1:Int),.int .u64 (x.2:Int)],.int .i64 7]) ?_ rfl ?_
   · rw[results_cell_tmp rfl]
     go_simp
   exact⟨rfl,by first | exact ((Below.refl _ _).alloc (Nat.le_refl _) _).alloc (by simp) _ | exact ((((Below.refl _ _).alloc (Nat.le_refl _) _).alloc (by simp) _).setCell (by simp) _).setCell (by simp) _⟩
 · go_enter Tryz.func107,Tryz.ntmps107
   go_wp2_with fail
   (try simp only[Exit.inBlock,Exit.then])
   refine bodyPost_ret (v:=.tuple #[.agg #[.int .u8 (x.1:Int),.int .u64 (x.2:Int)],.int .i64 0]) ?_ rfl ?_
   · rw[results_cell_tmp rfl]
     go_simp
   exact⟨rfl,by first | exact ((Below.refl _ _).alloc (Nat.le_refl _) _).alloc (by simp) _ | exact ((((Below.refl _ _).alloc (Nat.le_refl _) _).alloc (by simp) _).setCell (by simp) _).setCell (by simp) _⟩
def PutP (B c made:Nat) (x:Nat×Nat) (mo:Option Nat) (l:CpL) (w:World) (e:Ending) (w':World):Prop:=
 ∃m',e = .returned (.tuple #[.int .u64 ((made:Int)+1),.int .i64 0])∧CpB w' B c (some m') (made+1) (l++[(made+1,x)])∧Fr w w' (fun k=>k=c∨mo=some k)∧(mo=some m'∨(mo=none∧w.heap.size≤m'))
set_option maxRecDepth 100000 in
theorem put_full (B c made:Nat) (x:Nat×Nat) (mo:Option Nat) (l:CpL) (w:World) (h:CpB w B c mo made l) (hf:64≤l.length) (hl:l.length≤1000):
 Calls Tryz.prog 105 #[.pointer (some ⟨c,0,none⟩),hdV x] w fun e w'=>e = .returned (.tuple #[.int .u64 0,.int .i64 9])∧Below w.heap.size w w':=by
 have ha:Below w.heap.size w (w.alloc (.cells #[.int .u8 (x.1:Int),.int .u64 (x.2:Int)] 96)):=(Below.refl _ _).alloc (Nat.le_refl _) _
 have hln:=(h.ab ha).len
 have hc:=(h.ab ha).box.cell (k:=0) rfl
 have h64:(64:Int)≤(l.length:Int):=by omega
 have HA:=Lib.hid ha
 generalize l.length=n at *
 unfold hdV
 clear h ha hf hl
 go_enter Tryz.func105,Tryz.ntmps105
 go_wp2_with fail
 go_ret2
 exact⟨rfl,HA.out⟩
set_option maxRecDepth 100000 in
theorem put_some (B c made m:Nat) (x:Nat×Nat) (l:CpL) (w:World) (h:CpB w B c (some m) made l) (hf:l.length<64) (hm:made<9223372036854775807):
 Calls Tryz.prog 105 #[.pointer (some ⟨c,0,none⟩),hdV x] w (PutP B c made x (some m) l w):=by
 have ha:Below w.heap.size w (w.alloc (.cells #[.int .u8 (x.1:Int),.int .u64 (x.2:Int)] 96)):=(Below.refl _ _).alloc (Nat.le_refl _) _
 have hln:=(h.ab ha).len
 have hc:=(h.ab ha).box.cell (k:=0) rfl
 have h64:¬(64:Int)≤(l.length:Int):=by omega
 have hlow:=h.low
 have hcl:=h.box.lt
 have hw1:IntKind.u64.wrap ((made:Int)+1)=(((made+1:Nat)):Int):=wide_u64 (made+1) (by omega)
 have hnew:getC (made+1) l=none:=getC_none fun p hp e=>by have:=(h.le p hp).2;omega
 have hle:∀p∈l++[(made+1,x)],1≤p.1∧p.1≤made+1:=fun p hp=>by
  rcases List.mem_append.1 hp with hp | hp
  · have:=h.le p hp;omega
  · rw[List.mem_singleton] at hp
    subst hp
    exact⟨by simp,by simp⟩
 have hput:putL (made+1) (hdV x) (cpV l)=cpV (l++[(made+1,x)]):=by
  unfold putL
  rw[look_cp,hnew]
  simp[cpV]
 have HP:=Lib.hid hput
 have HLE:=Lib.hid hle
 have HL:=Lib.hid hlow
 have HC:=Lib.hid hcl
 have HA:=Lib.hid ha
 have MK:Hid (u64Ok (made+1)):=Lib.hid (by unfold u64Ok;omega)
 have HM:=Lib.hid (h.map m rfl)
 have hne:c≠m:=fun e=>by
  obtain⟨es,ck,h1,_⟩:=(h.map m rfl).2
  have h2:=h.box
  unfold CbB at h2
  rw[e,h1] at h2
  cases h2
 have NE:=Lib.hid hne
 have C1:=Lib.hid (h.box.ab ha)
 have c1:=C1.out.cell (k:=1) rfl
 have f1:=C1.out.free 1
 clear hne
 have G2:Hid (Fr w ((w.alloc (.cells #[.int .u8 (x.1:Int),.int .u64 (x.2:Int)] 96)).setCell ⟨c,1,none⟩ (.int .u64 (((made+1:Nat)):Int))) (fun k=>k=c∨some m=some k)):=Lib.hid ((Fr.of HA.out _).tr ((Fr.grown (grown_cell _ c 1 _)).imp fun k hk=>.inl (by injection hk with hk;exact hk.symm)))
 have D2:Hid (CbB ((w.alloc (.cells #[.int .u8 (x.1:Int),.int .u64 (x.2:Int)] 96)).setCell ⟨c,1,none⟩ (.int .u64 (((made+1:Nat)):Int))) c 98 #[.map (some m),.int .u64 (((made+1:Nat)):Int)]):=Lib.hid (C1.out.set 1 _)
 have M2:Hid (MapB u64V u64Ok ((w.alloc (.cells #[.int .u8 (x.1:Int),.int .u64 (x.2:Int)] 96)).setCell ⟨c,1,none⟩ (.int .u64 (((made+1:Nat)):Int))) m (cpV l)):=Lib.hid ((HM.out.2.ab HA.out).grown (grown_cell _ c 1 _) (fun e=>NE.out (by injection e)))
 have X2:Hid (CbB ((w.alloc (.cells #[.int .u8 (x.1:Int),.int .u64 (x.2:Int)] 96)).setCell ⟨c,1,none⟩ (.int .u64 (((made+1:Nat)):Int))) w.heap.size 96 #[.int .u8 (x.1:Int),.int .u64 (x.2:Int)]):=Lib.hid ((CbB.new w 96 #[.int .u8 (x.1:Int),.int .u64 (x.2:Int)]).far (by have:=HC.out;omega) _)
 unfold hdV at HP⊢
 have HN:=Lib.hid hln
 clear h hm hlow hcl hnew hle hput ha
 have hmn:=fun m W=>map_ne m W
 have hmq:=fun W=>map_eq W
 go_enter Tryz.func105,Tryz.ntmps105
 go_upto_region 6 with (fail)
 clear hmn hmq hln hc c1 f1
 obtain⟨w2,hw2⟩:∃w2,((w.alloc (.cells #[.int .u8 (x.1:Int),.int .u64 (x.2:Int)] 96)).setCell ⟨c,1,none⟩ (.int .u64 (((made+1:Nat)):Int)))=w2:=⟨_,rfl⟩
 have hcs:(((made+1:Nat)):Int)=(made:Int)+1:=by omega
 rw[hcs] at hw2 G2 D2 M2 X2
 rw[hw2] at G2 D2 M2 X2⊢
 have S2:Hid (w.heap.size≤w2.heap.size):=Lib.hid G2.out.size
 clear hw2 C1 HN
 refine wp_wide3 [⟨28,IsR (.pointer (some ⟨c,0,none⟩)),[],false⟩,⟨29,IsR (.pointer (some ⟨c,0,none⟩)),[0],false⟩,⟨30,IsR (.pointer (some ⟨c,0,none⟩)),[1],false⟩,⟨31,IsR (.map (some m)),[2],false⟩,⟨32,IsR (.pointer (some ⟨c,0,none⟩)),[],false⟩,⟨33,IsR (.pointer (some ⟨c,0,none⟩)),[4],false⟩,⟨34,IsR (.pointer (some ⟨c,1,none⟩)),[5],false⟩,⟨35,IsR (.int .u64 (((made+1:Nat)):Int)),[6],false⟩,⟨36,IsR (.agg #[.int .u8 (x.1:Int),.int .u64 (x.2:Int)]),[],false⟩] (by kernel_rfl) (by kernel_rfl) rfl rfl rfl ⟨?_,?_,?_,?_,?_,?_,?_,?_,?_,trivial⟩ ?_
 · refine⟨rfl,IsR.mono _,fun a W hA hb hd=>takes_plain rfl (yields_value _ ?_ rfl)⟩
   have h0:a.tmps[0]?.getD undef = .pointer (some ⟨c,0,none⟩):=(eval_get a 0).trans ((hA.eval (by simp)).trans rfl)
   go_simp
 · refine⟨rfl,IsR.mono _,fun a W hA hb hd=>takes_plain rfl (yields_value _ ?_ rfl)⟩
   have h28:a.tmps[28]?.getD undef = .pointer (some ⟨c,0,none⟩):=(eval_get a 28).trans (hd 0 (by simp) _ rfl)
   go_simp
 · refine⟨rfl,IsR.mono _,fun a W hA hb hd=>takes_plain rfl (yields_value _ ?_ rfl)⟩
   have h29:a.tmps[29]?.getD undef = .pointer (some ⟨c,0,none⟩):=(eval_get a 29).trans (hd 1 (by simp) _ rfl)
   go_simp
 · refine⟨rfl,IsR.mono _,fun a W hA hb hd=>takes_plain rfl (yields_value _ ?_ rfl)⟩
   have h30:a.tmps[30]?.getD undef = .pointer (some ⟨c,0,none⟩):=(eval_get a 30).trans (hd 2 (by simp) _ rfl)
   have hcc:=(D2.out.ab hb).cell (k:=0) rfl
   go_simp
 · refine⟨rfl,IsR.mono _,fun a W hA hb hd=>takes_plain rfl (yields_value _ ?_ rfl)⟩
   have h0:a.tmps[0]?.getD undef = .pointer (some ⟨c,0,none⟩):=(eval_get a 0).trans ((hA.eval (by simp)).trans rfl)
   go_simp
 · refine⟨rfl,IsR.mono _,fun a W hA hb hd=>takes_plain rfl (yields_value _ ?_ rfl)⟩
   have h32:a.tmps[32]?.getD undef = .pointer (some ⟨c,0,none⟩):=(eval_get a 32).trans (hd 4 (by simp) _ rfl)
   go_simp
 · refine⟨rfl,IsR.mono _,fun a W hA hb hd=>takes_plain rfl (yields_value _ ?_ rfl)⟩
   have h33:a.tmps[33]?.getD undef = .pointer (some ⟨c,0,none⟩):=(eval_get a 33).trans (hd 5 (by simp) _ rfl)
   go_simp
 · refine⟨rfl,IsR.mono _,fun a W hA hb hd=>takes_plain rfl (yields_value _ ?_ rfl)⟩
   have h34:a.tmps[34]?.getD undef = .pointer (some ⟨c,1,none⟩):=(eval_get a 34).trans (hd 6 (by simp) _ rfl)
   have hcc:=(D2.out.ab hb).cell (k:=1) rfl
   go_simp
 · refine⟨rfl,IsR.mono _,fun a W hA hb hd=>takes_plain rfl (yields_value _ ?_ rfl)⟩
   have h3:a.tmps[3]?.getD undef = .pointer (some ⟨w.heap.size,0,none⟩):=(eval_get a 3).trans ((hA.eval (by simp)).trans rfl)
   have hxx:=X2.out.ab hb
   have x0:=hxx.cell (k:=0) rfl
   have x1:=hxx.cell (k:=1) rfl
   go_simp
 intro vs w3 hR hF hb
 have e28:vs 28 = .pointer (some ⟨c,0,none⟩):=hR 0 _ rfl
 have e29:vs 29 = .pointer (some ⟨c,0,none⟩):=hR 1 _ rfl
 have e30:vs 30 = .pointer (some ⟨c,0,none⟩):=hR 2 _ rfl
 have e31:vs 31 = .map (some m):=hR 3 _ rfl
 have e32:vs 32 = .pointer (some ⟨c,0,none⟩):=hR 4 _ rfl
 have e33:vs 33 = .pointer (some ⟨c,0,none⟩):=hR 5 _ rfl
 have e34:vs 34 = .pointer (some ⟨c,1,none⟩):=hR 6 _ rfl
 have e35:vs 35 = .int .u64 (((made+1:Nat)):Int):=hR 7 _ rfl
 have e36:vs 36 = .agg #[.int .u8 (x.1:Int),.int .u64 (x.2:Int)]:=hR 8 _ rfl
 simp only[List.map_cons,List.map_nil,List.foldl_cons,List.foldl_nil,List.length_cons,List.length_nil,List.drop_succ_cons,List.drop_zero,Act.put,List.setIfInBounds_toArray,List.set_cons_zero,List.set_cons_succ,e28,e29,e30,e31,e32,e33,e34,e35,e36]
 have M3:=Lib.hid (M2.out.ab hb)
 have D3:=Lib.hid (D2.out.ab hb)
 have G3:=Lib.hid (G2.out.tr (Fr.of hb _))
 have S3:Hid (w.heap.size≤w3.heap.size):=Lib.hid G3.out.size
 clear hR hF hb G2 D2 M2 X2 e28 e29 e30 e31 e32 e33 e34 e35 e36
 go_wp2_with (refine wpList_mapPut rfl (.tmp 31) (.tmp 35) (.tmp 36) rfl u64_K Tryz.underlying93 rfl M3.out (made+1) MK.out rfl (.agg #[.int .u8 (x.1:Int),.int .u64 (x.2:Int)]) rfl ?_
              intro w4 m4 g4 s4 b4
              have M4:=Lib.hid m4
              have D4:=Lib.hid (D3.out.grown g4 NE.out)
              have G4:=Lib.hid (Fr.grown g4)
              have hcc:=D4.out.cell (k:=1) rfl
              clear m4 g4 s4 b4)
 go_ret2
 rw[HP.out] at M4
 exact⟨m,rfl,⟨D4.out,Nat.le_trans HL.out (Nat.le_trans S3.out G4.out.size),fun k hk=>by injection hk with hk;subst hk;exact⟨HM.out.1,M4.out⟩,fun hk=>(by cases hk),HLE.out⟩,G3.out.tr (G4.out.imp fun k hk=>.inr hk),.inl rfl⟩
set_option maxRecDepth 100000 in
theorem put_none (B c made:Nat) (x:Nat×Nat) (l:CpL) (w:World) (h:CpB w B c (none) made l) (hf:l.length<64) (hm:made<9223372036854775807):
 Calls Tryz.prog 105 #[.pointer (some ⟨c,0,none⟩),hdV x] w (PutP B c made x (none) l w):=by
 have ha:Below w.heap.size w (w.alloc (.cells #[.int .u8 (x.1:Int),.int .u64 (x.2:Int)] 96)):=(Below.refl _ _).alloc (Nat.le_refl _) _
 have hln:=(h.ab ha).len
 have hc:=(h.ab ha).box.cell (k:=0) rfl
 have h64:¬(64:Int)≤(l.length:Int):=by omega
 have hlow:=h.low
 have hcl:=h.box.lt
 have hw1:IntKind.u64.wrap ((made:Int)+1)=(((made+1:Nat)):Int):=wide_u64 (made+1) (by omega)
 have hnew:getC (made+1) l=none:=getC_none fun p hp e=>by have:=(h.le p hp).2;omega
 have hle:∀p∈l++[(made+1,x)],1≤p.1∧p.1≤made+1:=fun p hp=>by
  rcases List.mem_append.1 hp with hp | hp
  · have:=h.le p hp;omega
  · rw[List.mem_singleton] at hp
    subst hp
    exact⟨by simp,by simp⟩
 have hput:putL (made+1) (hdV x) (cpV l)=cpV (l++[(made+1,x)]):=by
  unfold putL
  rw[look_cp,hnew]
  simp[cpV]
 have HP:=Lib.hid hput
 have HLE:=Lib.hid hle
 have HL:=Lib.hid hlow
 have HC:=Lib.hid hcl
 have HA:=Lib.hid ha
 have MK:Hid (u64Ok (made+1)):=Lib.hid (by unfold u64Ok;omega)
 have hl0:l=[]:=h.nil rfl
 have hmm:∀W:World,(Instr.makeMap 93 none).run Tryz.prog W = .ok (.map (some W.heap.size)) (W.alloc (.map #[] 0)):=fun _=>rfl
 have L0:=Lib.hid hl0
 have a2:Below w.heap.size w ((w.alloc (.cells #[.int .u8 (x.1:Int),.int .u64 (x.2:Int)] 96)).alloc (.map #[] 0)):=ha.alloc (by simp) _
 have A2:=Lib.hid a2
 have C2:=Lib.hid (h.box.ab a2)
 have f0:=C2.out.free 0
 have C3:=Lib.hid (C2.out.set 0 (.map (some (w.heap.size+1))))
 have c1:=C3.out.cell (k:=1) rfl
 have f1:=C3.out.free 1
 have c0:=C2.out.cell (k:=0) rfl
 clear hl0 a2
 have G2:Hid (Fr w ((((w.alloc (.cells #[.int .u8 (x.1:Int),.int .u64 (x.2:Int)] 96)).alloc (.map #[] 0)).setCell ⟨c,0,none⟩ (.map (some (w.heap.size+1)))).setCell ⟨c,1,none⟩ (.int .u64 (((made+1:Nat)):Int))) (fun k=>k=c∨none=some k)):=Lib.hid (((Fr.of A2.out _).tr ((Fr.grown (grown_cell _ c 0 _)).imp fun k hk=>.inl (by injection hk with hk;exact hk.symm))).tr ((Fr.grown (grown_cell _ c 1 _)).imp fun k hk=>.inl (by injection hk with hk;exact hk.symm)))
 have D2:Hid (CbB ((((w.alloc (.cells #[.int .u8 (x.1:Int),.int .u64 (x.2:Int)] 96)).alloc (.map #[] 0)).setCell ⟨c,0,none⟩ (.map (some (w.heap.size+1)))).setCell ⟨c,1,none⟩ (.int .u64 (((made+1:Nat)):Int))) c 98 #[.map (some (w.heap.size+1)),.int .u64 (((made+1:Nat)):Int)]):=Lib.hid (C3.out.set 1 _)
 have M2:Hid (MapB u64V u64Ok ((((w.alloc (.cells #[.int .u8 (x.1:Int),.int .u64 (x.2:Int)] 96)).alloc (.map #[] 0)).setCell ⟨c,0,none⟩ (.map (some (w.heap.size+1)))).setCell ⟨c,1,none⟩ (.int .u64 (((made+1:Nat)):Int))) (w.heap.size+1) (cpV l)):=Lib.hid (by
  rw[L0.out]
  have h0:=MapB.new u64V u64Ok (w.alloc (.cells #[.int .u8 (x.1:Int),.int .u64 (x.2:Int)] 96))
  rw[show (w.alloc (.cells #[.int .u8 (x.1:Int),.int .u64 (x.2:Int)] 96)).heap.size=w.heap.size+1 by simp] at h0
  exact (h0.grown (grown_cell _ c 0 _) (by have:=HC.out;simp;omega)).grown (grown_cell _ c 1 _) (by have:=HC.out;simp;omega))
 have X2:Hid (CbB ((((w.alloc (.cells #[.int .u8 (x.1:Int),.int .u64 (x.2:Int)] 96)).alloc (.map #[] 0)).setCell ⟨c,0,none⟩ (.map (some (w.heap.size+1)))).setCell ⟨c,1,none⟩ (.int .u64 (((made+1:Nat)):Int))) w.heap.size 96 #[.int .u8 (x.1:Int),.int .u64 (x.2:Int)]):=Lib.hid ((((CbB.new w 96 #[.int .u8 (x.1:Int),.int .u64 (x.2:Int)]).ab ((Below.refl _ _).alloc (Nat.le_refl _) _)).far (by have:=HC.out;omega) _).far (by have:=HC.out;omega) _)
 have NE:Hid (c≠w.heap.size+1):=Lib.hid (by have:=HC.out;omega)
 unfold hdV at HP⊢
 have HN:=Lib.hid hln
 clear h hm hlow hcl hnew hle hput ha
 have hmn:=fun m W=>map_ne m W
 have hmq:=fun W=>map_eq W
 go_enter Tryz.func105,Tryz.ntmps105
 go_upto_region 6 with (fail)
 clear hmn hmq hln hc c1 f1 f0 c0 hmm
 obtain⟨w2,hw2⟩:∃w2,((((w.alloc (.cells #[.int .u8 (x.1:Int),.int .u64 (x.2:Int)] 96)).alloc (.map #[] 0)).setCell ⟨c,0,none⟩ (.map (some (w.heap.size+1)))).setCell ⟨c,1,none⟩ (.int .u64 (((made+1:Nat)):Int)))=w2:=⟨_,rfl⟩
 have hcs:(((made+1:Nat)):Int)=(made:Int)+1:=by omega
 rw[hcs] at hw2 G2 D2 M2 X2
 rw[hw2] at G2 D2 M2 X2⊢
 have S2:Hid (w.heap.size≤w2.heap.size):=Lib.hid G2.out.size
 clear hw2 C2 C3 A2 HN
 refine wp_wide3 [⟨28,IsR (.pointer (some ⟨c,0,none⟩)),[],false⟩,⟨29,IsR (.pointer (some ⟨c,0,none⟩)),[0],false⟩,⟨30,IsR (.pointer (some ⟨c,0,none⟩)),[1],false⟩,⟨31,IsR (.map (some (w.heap.size+1))),[2],false⟩,⟨32,IsR (.pointer (some ⟨c,0,none⟩)),[],false⟩,⟨33,IsR (.pointer (some ⟨c,0,none⟩)),[4],false⟩,⟨34,IsR (.pointer (some ⟨c,1,none⟩)),[5],false⟩,⟨35,IsR (.int .u64 (((made+1:Nat)):Int)),[6],false⟩,⟨36,IsR (.agg #[.int .u8 (x.1:Int),.int .u64 (x.2:Int)]),[],false⟩] (by kernel_rfl) (by kernel_rfl) rfl rfl rfl ⟨?_,?_,?_,?_,?_,?_,?_,?_,?_,trivial⟩ ?_
 · refine⟨rfl,IsR.mono _,fun a W hA hb hd=>takes_plain rfl (yields_value _ ?_ rfl)⟩
   have h0:a.tmps[0]?.getD undef = .pointer (some ⟨c,0,none⟩):=(eval_get a 0).trans ((hA.eval (by simp)).trans rfl)
   go_simp
 · refine⟨rfl,IsR.mono _,fun a W hA hb hd=>takes_plain rfl (yields_value _ ?_ rfl)⟩
   have h28:a.tmps[28]?.getD undef = .pointer (some ⟨c,0,none⟩):=(eval_get a 28).trans (hd 0 (by simp) _ rfl)
   go_simp
 · refine⟨rfl,IsR.mono _,fun a W hA hb hd=>takes_plain rfl (yields_value _ ?_ rfl)⟩
   have h29:a.tmps[29]?.getD undef = .pointer (some ⟨c,0,none⟩):=(eval_get a 29).trans (hd 1 (by simp) _ rfl)
   go_simp
 · refine⟨rfl,IsR.mono _,fun a W hA hb hd=>takes_plain rfl (yields_value _ ?_ rfl)⟩
   have h30:a.tmps[30]?.getD undef = .pointer (some ⟨c,0,none⟩):=(eval_get a 30).trans (hd 2 (by simp) _ rfl)
   have hcc:=(D2.out.ab hb).cell (k:=0) rfl
   go_simp
 · refine⟨rfl,IsR.mono _,fun a W hA hb hd=>takes_plain rfl (yields_value _ ?_ rfl)⟩
   have h0:a.tmps[0]?.getD undef = .pointer (some ⟨c,0,none⟩):=(eval_get a 0).trans ((hA.eval (by simp)).trans rfl)
   go_simp
 · refine⟨rfl,IsR.mono _,fun a W hA hb hd=>takes_plain rfl (yields_value _ ?_ rfl)⟩
   have h32:a.tmps[32]?.getD undef = .pointer (some ⟨c,0,none⟩):=(eval_get a 32).trans (hd 4 (by simp) _ rfl)
   go_simp
 · refine⟨rfl,IsR.mono _,fun a W hA hb hd=>takes_plain rfl (yields_value _ ?_ rfl)⟩
   have h33:a.tmps[33]?.getD undef = .pointer (some ⟨c,0,none⟩):=(eval_get a 33).trans (hd 5 (by simp) _ rfl)
   go_simp
 · refine⟨rfl,IsR.mono _,fun a W hA hb hd=>takes_plain rfl (yields_value _ ?_ rfl)⟩
   have h34:a.tmps[34]?.getD undef = .pointer (some ⟨c,1,none⟩):=(eval_get a 34).trans (hd 6 (by simp) _ rfl)
   have hcc:=(D2.out.ab hb).cell (k:=1) rfl
   go_simp
 · refine⟨rfl,IsR.mono _,fun a W hA hb hd=>takes_plain rfl (yields_value _ ?_ rfl)⟩
   have h3:a.tmps[3]?.getD undef = .pointer (some ⟨w.heap.size,0,none⟩):=(eval_get a 3).trans ((hA.eval (by simp)).trans rfl)
   have hxx:=X2.out.ab hb
   have x0:=hxx.cell (k:=0) rfl
   have x1:=hxx.cell (k:=1) rfl
   go_simp
 intro vs w3 hR hF hb
 have e28:vs 28 = .pointer (some ⟨c,0,none⟩):=hR 0 _ rfl
 have e29:vs 29 = .pointer (some ⟨c,0,none⟩):=hR 1 _ rfl
 have e30:vs 30 = .pointer (some ⟨c,0,none⟩):=hR 2 _ rfl
 have e31:vs 31 = .map (some (w.heap.size+1)):=hR 3 _ rfl
 have e32:vs 32 = .pointer (some ⟨c,0,none⟩):=hR 4 _ rfl
 have e33:vs 33 = .pointer (some ⟨c,0,none⟩):=hR 5 _ rfl
 have e34:vs 34 = .pointer (some ⟨c,1,none⟩):=hR 6 _ rfl
 have e35:vs 35 = .int .u64 (((made+1:Nat)):Int):=hR 7 _ rfl
 have e36:vs 36 = .agg #[.int .u8 (x.1:Int),.int .u64 (x.2:Int)]:=hR 8 _ rfl
 simp only[List.map_cons,List.map_nil,List.foldl_cons,List.foldl_nil,List.length_cons,List.length_nil,List.drop_succ_cons,List.drop_zero,Act.put,List.setIfInBounds_toArray,List.set_cons_zero,List.set_cons_succ,e28,e29,e30,e31,e32,e33,e34,e35,e36]
 have M3:=Lib.hid (M2.out.ab hb)
 have D3:=Lib.hid (D2.out.ab hb)
 have G3:=Lib.hid (G2.out.tr (Fr.of hb _))
 have S3:Hid (w.heap.size≤w3.heap.size):=Lib.hid G3.out.size
 clear hR hF hb G2 D2 M2 X2 e28 e29 e30 e31 e32 e33 e34 e35 e36
 go_wp2_with (refine wpList_mapPut rfl (.tmp 31) (.tmp 35) (.tmp 36) rfl u64_K Tryz.underlying93 rfl M3.out (made+1) MK.out rfl (.agg #[.int .u8 (x.1:Int),.int .u64 (x.2:Int)]) rfl ?_
              intro w4 m4 g4 s4 b4
              have M4:=Lib.hid m4
              have D4:=Lib.hid (D3.out.grown g4 NE.out)
              have G4:=Lib.hid (Fr.grown g4)
              have hcc:=D4.out.cell (k:=1) rfl
              clear m4 g4 s4 b4)
 go_ret2
 rw[HP.out] at M4
 refine⟨w.heap.size+1,rfl,⟨D4.out,Nat.le_trans HL.out (Nat.le_trans S3.out G4.out.size),fun k hk=>by injection hk with hk;subst hk;exact⟨by have:=HL.out;omega,M4.out⟩,fun hk=>(by cases hk),HLE.out⟩,?_,.inr ⟨rfl,Nat.le_succ _⟩⟩
 refine⟨G4.out.os.trans G3.out.os,G4.out.tape.trans G3.out.tape,G4.out.output.trans G3.out.output,Nat.le_trans S3.out G4.out.size,fun k hk hn=>?_⟩
 have hlt:k<w3.heap.size:=Nat.lt_of_lt_of_le hk S3.out
 rw[G4.out.block k hlt (fun e=>by injection e with e;omega)]
 exact G3.out.block k hk hn
def PutA (B c made:Nat) (x:Nat×Nat) (mo:Option Nat) (l:CpL) (w:World) (e:Ending) (w':World):Prop:=
 (l.length<64∧PutP B c made x mo l w e w')∨(64≤l.length∧e = .returned (.tuple #[.int .u64 0,.int .i64 9])∧Below w.heap.size w w')
theorem cput_any (B c made:Nat) (x:Nat×Nat) (mo:Option Nat) (l:CpL) (w:World) (h:CpB w B c mo made l) (hl:l.length≤1000) (hm:made<9223372036854775807):
 Calls Tryz.prog 105 #[.pointer (some ⟨c,0,none⟩),hdV x] w (PutA B c made x mo l w):=by
 by_cases h64:l.length<64
 · cases mo with
   | some m=>exact (put_some B c made m x l w h h64 hm).mono fun e w' hp=>.inl ⟨h64,hp⟩
   | none=>exact (put_none B c made x l w h h64 hm).mono fun e w' hp=>.inl ⟨h64,hp⟩
 · exact (put_full B c made x mo l w h (by omega) hl).mono fun e w' hp=>.inr ⟨by omega,hp⟩
theorem PutA.back {B c made:Nat} {x:Nat×Nat} {mo:Option Nat} {l:CpL} {w w1 w':World} {e:Ending} (hb:Below w.heap.size w w1) (h:PutA B c made x mo l w1 e w'):PutA B c made x mo l w e w':=by
 rcases h with ⟨h1,m',h2,h3,h4⟩ | ⟨h1,h2,h3⟩
 · exact .inl ⟨h1,m',h2,h3,(Fr.of hb _).tr h4.1,h4.2.imp id fun h=>⟨h.1,Nat.le_trans hb.size h.2⟩⟩
 · exact .inr ⟨h1,h2,below_tr hb h3 hb.size⟩
set_option maxRecDepth 100000 in
theorem attach_any (B c made:Nat) (mo:Option Nat) (l:CpL) (w:World) (h:CpB w B c mo made l) (hl:l.length≤1000) (hm:made<9223372036854775807):
 Calls Tryz.prog 72 #[.pointer (some ⟨c,0,none⟩)] w (PutA B c made (15,0) mo l w):=by
 have HP:=Lib.hid (cput_any B c made (15,0) mo l w h hl hm)
 unfold hdV at HP
 clear h hl hm
 go_enter Tryz.func72,Tryz.ntmps72
 go_wp2_with fail
 refine HP.out.mono ?_
 rintro e w1 hp
 have hp2:=Lib.hid hp
 rcases hp with ⟨h1,m',rfl,h3,h4⟩ | ⟨h1,rfl,h3⟩
 all_goals
  clear HP
  go_wp2_with fail
  go_ret2
  exact hp2.out
def noGive (x:Nat):Bool:=bits .and .u8 (x:Int) 8==0
def overR (r x:Nat):Bool:=bits .andNot .u8 (r:Int) (x:Int) != 0
def giveE (h r:Nat) (l:CpL):Nat:=match getC h l with
 | some x=>bif noGive x.1||overR r x.1 then 250 else 0
 | none=>7
def GiveR (B c made h r:Nat) (mo:Option Nat) (l:CpL) (w:World) (e:Ending) (w':World):Prop:=
 (giveE h r l≠0∧e = .returned (.tuple #[.int .u64 0,.int .i64 (giveE h r l:Int)])∧Below w.heap.size w w')∨(giveE h r l=0∧PutA B c made (r,h) mo l w e w')
set_option maxRecDepth 100000 in
theorem give_any (B c made h r:Nat) (mo:Option Nat) (l:CpL) (w:World) (hc:CpB w B c mo made l) (hk:u64Ok h) (hl:l.length≤1000) (hm:made<9223372036854775807):
 Calls Tryz.prog 75 #[.pointer (some ⟨c,0,none⟩),.int .u64 (h:Int),.int .u8 (r:Int)] w (GiveR B c made h r mo l w):=by
 have HF:=Lib.hid (find_any B c made h mo l w hc hk)
 have HC:=Lib.hid hc
 have HP:=Lib.hid fun W hW=>cput_any B c made (r,h) mo l W hW hl hm
 unfold findP at HF
 unfold GiveR giveE
 cases hg:getC h l with
 | none=>
   rw[hg] at HF
   simp only[Option.getD_none,Option.isSome_none,Bool.false_eq_true,if_false] at HF
   unfold hdV at HF
   clear hc hk hl hm HP hg
   go_enter Tryz.func75,Tryz.ntmps75
   go_wp2_with fail
   refine HF.out.mono ?_
   rintro e w1 ⟨rfl,hb⟩
   have B1:=Lib.hid hb
   clear hb HF
   go_wp2_with fail
   go_ret2
   exact .inl ⟨by decide,rfl,B1.out.alloc B1.out.size _⟩
 | some x=>
   rw[hg] at HF
   simp only[Option.getD_some,Option.isSome_some,if_true] at HF
   unfold hdV at HF HP
   have d1:(bits .and .u8 (x.1:Int) 8==0)=noGive x.1:=rfl
   have d2:(bits .andNot .u8 (r:Int) (x.1:Int) != 0)=overR r x.1:=rfl
   simp only
   generalize noGive x.1=b1 at *
   generalize overR r x.1=b2 at *
   clear hc hk hl hm hg
   cases b1
   · cases b2
     · go_enter Tryz.func75,Tryz.ntmps75
       go_wp2_with fail
       refine HF.out.mono ?_
       rintro e w1 ⟨rfl,hb⟩
       have B1:=Lib.hid hb
       have B2:Hid (Below w.heap.size w (w1.alloc (.cells #[.int .u8 (x.1:Int),.int .u64 (x.2:Int)] 96))):=Lib.hid (hb.alloc hb.size _)
       clear hb HF
       go_wp2_with fail
       refine (HP.out _ (HC.out.ab B2.out)).mono ?_
       rintro e w3 hp
       have hp2:=Lib.hid (PutA.back B2.out hp)
       rcases hp with ⟨h1,m',rfl,h3,h4⟩ | ⟨h1,rfl,h3⟩
       all_goals
        clear HP HC B1 B2
        go_wp2_with fail
        go_ret2
        exact .inr ⟨rfl,hp2.out⟩
     · go_enter Tryz.func75,Tryz.ntmps75
       go_wp2_with fail
       refine HF.out.mono ?_
       rintro e w1 ⟨rfl,hb⟩
       have B1:=Lib.hid hb
       have B2:Hid (Below w.heap.size w (w1.alloc (.cells #[.int .u8 (x.1:Int),.int .u64 (x.2:Int)] 96))):=Lib.hid (hb.alloc hb.size _)
       clear hb HF
       go_wp2_with fail
       go_ret2
       exact .inl ⟨by simp,rfl,B2.out⟩
   · go_enter Tryz.func75,Tryz.ntmps75
     go_wp2_with fail
     refine HF.out.mono ?_
     rintro e w1 ⟨rfl,hb⟩
     have B1:=Lib.hid hb
     have B2:Hid (Below w.heap.size w (w1.alloc (.cells #[.int .u8 (x.1:Int),.int .u64 (x.2:Int)] 96))):=Lib.hid (hb.alloc hb.size _)
     clear hb HF
     go_wp2_with fail
     go_ret2
     exact .inl ⟨by simp,rfl,B2.out⟩
end Go.Proofs.YtgdhinjhbjolgaaGreat
namespace Go.Proofs.YtgdhinjhbjolgaaGreat.U64
open Go.RowKit Go.Sort
set_option linter.unusedVariables false
def nvs (l:List Nat):List Value:=l.map fun (n:Nat)=>Value.int .u64 (n:Int)
theorem infoN:(Tryz.prog.info? 33).map (fun i=>(i.zero,i.size,i.bytes))=some (some (.int .u64 0),1,8):=by kernel_rfl
def NsB (w:World) (B:Nat) (v:Value) (l:List Nat):Prop:=w.ownsRow B 33 1 v l.length (nvs l)
theorem NsB.nil (w:World) (B:Nat):NsB w B (.slice none 0 0) []:=World.ownsRow_nil _ _ _ _
theorem NsB.ab {w w':World} {B:Nat} {v:Value} {l:List Nat} (h:NsB w B v l) (hb:Below w.heap.size w w'):NsB w' B v l:=World.ownsRow.kept (row:=none) h (grown_of hb none) (by cases hv:v.ownBlock <;> simp)
theorem NsB.form {w:World} {B:Nat} {v:Value} {l:List Nat} (h:NsB w B v l):∃A c,v = .slice A l.length c∧∀i (hi:i<l.length),∃g,A=some ⟨g,0,none⟩∧w.cell? ⟨g,i,none⟩=some (.int .u64 ((l[i]:Nat):Int)):=by
 have h0:=h
 rcases h.2 with ⟨rfl,h1⟩ | ⟨g,cap,cur,rfl,_,hb,_⟩
 · exact⟨none,0,by rw[h1],fun i hi=>by omega⟩
 · refine⟨_,_,rfl,fun i hi=>⟨g,rfl,?_⟩⟩
   have h2:=World.ownsRow.cellAt h0 i (by omega)
   rw[h2]
   simp[nvs,hi]
theorem wpList_appN {rest:List Oper} {ops:Array Oper} {o:Oper} {a:Act} {w:World} {Q:Exit→Act→World→Prop} (hgd:o.guard=none) (s x:Operand)
 (ho:o.op = .call { callee:=.builtin .append,args:=#[s,x],argTypes:=#[149,149] })
 {B G:Nat} {v:Value} {ls:List Nat} (hown:NsB w B v ls) (hs:a.eval s=v) (n:Nat) (hx:a.eval x = .slice (some ⟨G,0,none⟩) 1 1) (hG:CbB w G 33 #[.int .u64 (n:Int)]) (hl:ls.length≤100000) (hB:B≤w.heap.size)
 (h:∀v' w',NsB w' B v' (ls++[n])→w.grownBy w' v.ownBlock→wpList Tryz.prog ops Q rest (a.put o.dst v') w'):wpList Tryz.prog ops Q (o::rest) a w:=by
 obtain⟨i0,hi0,hz0,hz1,hz2⟩:=info_parts infoN
 obtain⟨v1,W1,hrun,r1,r2,_⟩:=run_append_own (P:=Tryz.prog) w B 149 o.type 33 i0 _ 1 8 Tryz.underlying149 hi0 hz0 hz1 hz2 rfl (by decide) v ls.length (nvs ls) hown ⟨G,0,none⟩ 1 1 [.int .u64 (n:Int)] rfl (row_at hG) (by simp[Value.oneCell']) (by simp only[maxLen];omega) (by omega) hB
 refine wpList_plain hgd fun K hK=>?_
 unfold Oper.wp execOp
 simp only[ho,resolve,invoke,builtin,Sem.run_bind,Sem.run_pure,Result.andThen_ok,List.map_toArray,List.map_cons,List.map_nil,hs,hx,hrun]
 refine hK _ _ (h v1 W1 ?_ r2)
 unfold NsB nvs
 rw[List.map_append,List.length_append,List.length_singleton]
 exact r1
theorem below_grownO {B:Nat} {a b c:World} {r:Option Nat} (h:Below B a b) (k:b.grownBy c r) (hr:∀g,r=some g→B≤g) (hs:B≤b.heap.size):Below B a c:=h.trans ⟨k.os,k.tape,k.output,k.size,fun i hi=>k.block i (by omega) (fun e=>by have:=hr i e.symm;omega)⟩
end Go.Proofs.YtgdhinjhbjolgaaGreat.U64
namespace Go.Proofs.YtgdhinjhbjolgaaGreat
open Go.RowKit
set_option linter.unusedVariables false
structure Hdl where
 r:Nat
 up:Nat
 on:Bool
abbrev HL:=List Hdl
def nthH (A:HL) (h:Nat):Option Hdl:=if h=0 then none else A[h-1]?
def atH (A:HL) (h:Nat):Option Hdl:=(nthH A h).filter (·.on)
def upH (A:HL) (k:Nat):Nat:=match atH A k with | some x=>x.up | none=>0
def belowF:Nat→HL→Nat→Nat→Bool
 | 0,_,_,_=>false
 | n+1,A,h,k=>upH A k != 0&&(upH A k==h||belowF n A h (upH A k))
def belowH (A:HL) (h k:Nat):Bool:=(atH A h).isSome&&belowF A.length A h k
def aliveF:Nat→HL→List Nat
 | _,[]=>[]
 | k,x::r=>bif x.on then (k+1)::aliveF (k+1) r else aliveF (k+1) r
def aliveH (A:HL):List Nat:=aliveF 0 A
def putH (A:HL) (r u:Nat):(Nat×Nat)×HL:=if 64≤(aliveH A).length then ((0,9),A) else ((A.length+1,0),A++[⟨r,u,true⟩])
def giveH (A:HL) (h r:Nat):(Nat×Nat)×HL:=match atH A h with
 | none=>((0,7),A)
 | some x=>bif noGive x.r||overR r x.r then ((0,250),A) else putH A r h
def killH (A:HL) (v:Nat):HL:=A.mapIdx fun i x=>⟨x.r,x.up,x.on && !(decide (i+1=v)||belowH A v (i+1))⟩
def mayRv (A:HL) (x:Hdl) (h v:Nat):Bool:=decide (h=v)||(!noGive x.r&&belowH A h v)
def revokeH (A:HL) (h v:Nat):Nat×HL:=match atH A h with
 | none=>(7,A)
 | some x=>match atH A v with
   | none=>(7,A)
   | some _=>bif mayRv A x h v then (0,killH A v) else (250,A)
def checkH (A:HL) (h need:Nat):Nat:=match atH A h with
 | none=>7
 | some x=>bif overR need x.r then 250 else 0
structure RightA (A:HL):Prop where
 lt:∀(i:Nat) (x:Hdl),A[i]? = some x→x.up≤i
 on:∀(i:Nat) (x:Hdl),A[i]? = some x→x.on=true→x.up≠0→(atH A x.up).isSome=true
theorem atH_zero (A:HL):atH A 0=none:=by simp[atH,nthH]
theorem atH_some {A:HL} {h:Nat} {x:Hdl}:atH A h=some x↔1≤h∧A[h-1]? = some x∧x.on=true:=by
 unfold atH nthH
 by_cases e:h=0
 · subst e;simp
 · rw[if_neg e,Option.filter_eq_some_iff]
   constructor
   · rintro ⟨h1,h2⟩;exact⟨by omega,h1,h2⟩
   · rintro ⟨_,h1,h2⟩;exact⟨h1,h2⟩
theorem atH_le {A:HL} {h:Nat} {x:Hdl} (e:atH A h=some x):1≤h∧h≤A.length:=by
 obtain⟨h1,h2,_⟩:=atH_some.1 e
 have:=(List.getElem?_eq_some_iff.1 h2).1
 exact⟨h1,by omega⟩
theorem atH_isSome {A:HL} {h:Nat}:(atH A h).isSome=true↔∃x,1≤h∧A[h-1]? = some x∧x.on=true:=by
 rw[Option.isSome_iff_exists]
 constructor
 · rintro ⟨x,hx⟩;exact⟨x,atH_some.1 hx⟩
 · rintro ⟨x,hx⟩;exact⟨x,atH_some.2 hx⟩
theorem RightA.upLt {A:HL} (hA:RightA A) (k:Nat):upH A k=0∨(upH A k<k∧1≤k∧k≤A.length∧(atH A (upH A k)).isSome=true):=by
 unfold upH
 cases e:atH A k with
 | none=>exact .inl rfl
 | some x=>
   obtain⟨h1,h2,h3⟩:=atH_some.1 e
   have h4:=hA.lt _ _ h2
   have h5:=(atH_le e).2
   by_cases h0:x.up=0
   · exact .inl h0
   · exact .inr ⟨by show x.up<k;omega,h1,h5,hA.on _ _ h2 h3 h0⟩
theorem belowF_fuel {A:HL} (hA:RightA A) (h:Nat):∀n m k,k≤n→k≤m→belowF n A h k=belowF m A h k
 | 0,0,_,_,_=>rfl
 | 0,m+1,k,h1,_=>by
   have:k=0:=by omega
   subst this
   simp[belowF,upH,atH_zero]
 | n+1,0,k,_,h2=>by
   have:k=0:=by omega
   subst this
   simp[belowF,upH,atH_zero]
 | n + 1,m+1,k,h1,h2=>by
   rcases hA.upLt k with h0 | ⟨h0,_⟩
   · simp[belowF,h0]
   · simp only[belowF]
     rw[belowF_fuel hA h n m (upH A k) (by omega) (by omega)]
theorem belowF_step {A:HL} (hA:RightA A) (h k:Nat):belowF A.length A h k=(upH A k != 0&&(upH A k==h||belowF A.length A h (upH A k))):=by
 rcases hA.upLt k with h0 | ⟨h0,h1,h2,_⟩
 · cases hl:A.length with
   | zero=>simp[belowF,h0]
   | succ n=>simp[belowF,h0]
 · obtain⟨n,hn⟩:∃n,A.length=n+1:=⟨A.length-1,by omega⟩
   rw[belowF_fuel hA h A.length (A.length+1) k h2 (by omega)]
   simp only[belowF]
theorem aliveF_snoc (x:Hdl):∀(A:HL) (k:Nat),aliveF k (A++[x])=aliveF k A++(bif x.on then [k+A.length+1] else [])
 | [],k=>by cases h:x.on <;> simp[aliveF,h]
 | y::r,k=>by
   simp only[List.cons_append,aliveF,aliveF_snoc x r (k+1),List.length_cons]
   have e:k+1+r.length+1=k+(r.length+1)+1:=by omega
   rw[e]
   cases y.on <;> simp
theorem aliveF_cons (k:Nat) (x:Hdl) (r:HL):aliveF k (x::r)=bif x.on then (k+1)::aliveF (k+1) r else aliveF (k+1) r:=rfl
theorem aliveF_mem {n:Nat}:∀{A:HL} {k:Nat},n∈aliveF k A↔∃i x,A[i]? = some x∧x.on=true∧n=k+i+1
 | [],k=>by simp[aliveF]
 | y :: r,k=>by
   have ih:=aliveF_mem (n:=n) (A:=r) (k:=k+1)
   have hl:n∈aliveF k (y::r)↔(y.on=true∧n=k+1)∨n∈aliveF (k+1) r:=by
    rw[aliveF_cons]
    cases hy:y.on <;> simp
   rw[hl,ih]
   constructor
   · rintro (⟨h1,h2⟩ | ⟨i,x,h1,h2,h3⟩)
     · exact⟨0,y,rfl,h1,by omega⟩
     · exact⟨i+1,x,by simpa using h1,h2,by omega⟩
   · rintro ⟨i,x,h1,h2,h3⟩
     cases i with
     | zero=>
       simp only[List.getElem?_cons_zero,Option.some.injEq] at h1
       subst h1
       exact .inl ⟨h2,by omega⟩
     | succ i=>exact .inr ⟨i,x,by simpa using h1,h2,by omega⟩
theorem aliveF_asc:∀(A:HL) (k:Nat),(aliveF k A).Pairwise (· < ·)
 | [],k=>List.Pairwise.nil
 | y :: r,k=>by
   have ih:=aliveF_asc r (k+1)
   rw[aliveF_cons]
   cases y.on
   · exact ih
   · refine List.pairwise_cons.2 ⟨fun n hn=>?_,ih⟩
     obtain⟨i,x,_,_,h3⟩:=aliveF_mem.1 hn
     omega
theorem aliveF_len:∀(A:HL) (k:Nat),(aliveF k A).length≤A.length
 | [],k=>Nat.le_refl _
 | y::r,k=>by
   have ih:=aliveF_len r (k+1)
   rw[aliveF_cons]
   cases y.on
   · exact Nat.le_trans ih (by simp)
   · simpa using ih
theorem aliveH_mem {A:HL} {n:Nat}:n∈aliveH A↔(atH A n).isSome=true:=by
 unfold aliveH
 rw[aliveF_mem,atH_isSome]
 constructor
 · rintro ⟨i,x,h1,h2,rfl⟩;exact⟨x,by omega,by simpa using h1,h2⟩
 · rintro ⟨x,h1,h2,h3⟩;exact⟨n-1,x,h2,h3,by omega⟩
theorem aliveH_asc (A:HL):(aliveH A).Pairwise (· < ·):=aliveF_asc A 0
theorem aliveH_nodup (A:HL):(aliveH A).Nodup:=(aliveH_asc A).imp fun h=>Nat.ne_of_lt h
theorem aliveH_le {A:HL} {n:Nat} (h:n∈aliveH A):1≤n∧n≤A.length:=by
 obtain⟨x,hx⟩:=Option.isSome_iff_exists.1 (aliveH_mem.1 h)
 exact atH_le hx
theorem aliveH_snoc (A:HL) (r u:Nat):aliveH (A++[⟨r,u,true⟩])=aliveH A++[A.length+1]:=by
 unfold aliveH
 rw[aliveF_snoc]
 simp
theorem atH_snoc (A:HL) (x:Hdl) (k:Nat):atH (A++[x]) k=if k=A.length+1 then (bif x.on then some x else none) else atH A k:=by
 unfold atH nthH
 by_cases e:k=0
 · subst e;simp
 · rw[if_neg e,if_neg e]
   by_cases e1:k=A.length+1
   · subst e1
     rw[if_pos rfl,List.getElem?_append_right (by omega)]
     cases h:x.on <;> simp[Option.filter,h]
   · rw[if_neg e1]
     by_cases e2:k-1<A.length
     · rw[List.getElem?_append_left e2]
     · rw[List.getElem?_eq_none (by simp;omega),List.getElem?_eq_none (by omega)]
theorem RightA.nil:RightA []:=⟨fun i x h=>by simp at h,fun i x h=>by simp at h⟩
theorem RightA.snoc {A:HL} (hA:RightA A) (r u:Nat) (hu:u=0∨(atH A u).isSome=true):RightA (A++[⟨r,u,true⟩]):=by
 have hle:u≤A.length:=by
  rcases hu with rfl | h
  · omega
  · obtain⟨x,hx⟩:=Option.isSome_iff_exists.1 h
    exact (atH_le hx).2
 refine⟨fun i x h=>?_,fun i x h hon h0=>?_⟩
 · rcases Nat.lt_or_ge i A.length with hi | hi
   · rw[List.getElem?_append_left hi] at h
     exact hA.lt i x h
   · rw[List.getElem?_append_right hi] at h
     cases hd:i-A.length with
     | zero=>
       rw[hd] at h
       simp only[List.getElem?_cons_zero,Option.some.injEq] at h
       subst h
       show u≤i
       omega
     | succ n=>rw[hd] at h;simp at h
 · rw[atH_snoc]
   split
   · rfl
   · rcases Nat.lt_or_ge i A.length with hi | hi
     · rw[List.getElem?_append_left hi] at h
       exact hA.on i x h hon h0
     · rw[List.getElem?_append_right hi] at h
       cases hd:i-A.length with
       | zero=>
         rw[hd] at h
         simp only[List.getElem?_cons_zero,Option.some.injEq] at h
         subst h
         rcases hu with h1 | h1
         · exact absurd h1 h0
         · exact h1
       | succ n=>rw[hd] at h;simp at h
theorem killH_at (A:HL) (v i:Nat):(killH A v)[i]? = (A[i]?).map fun x=>⟨x.r,x.up,x.on && !(decide (i+1=v)||belowH A v (i+1))⟩:=by
 unfold killH
 rw[List.getElem?_mapIdx]
theorem killH_len (A:HL) (v:Nat):(killH A v).length=A.length:=by simp[killH]
theorem atH_kill (A:HL) (v k:Nat):atH (killH A v) k=if k=v||belowH A v k then none else atH A k:=by
 unfold atH nthH
 by_cases e:k=0
 · subst e;simp
 · rw[if_neg e,if_neg e,killH_at]
   have e1:k-1+1=k:=by omega
   rw[e1]
   cases h:A[k-1]? with
   | none=>simp
   | some x=>
     by_cases h1:k=v
     · simp[h1,Option.filter]
     · cases h2:belowH A v k <;> cases h3:x.on <;> simp[h1,h3,Option.filter]
       cases x
       simp_all
theorem belowH_up {A:HL} (hA:RightA A) {v k:Nat} (hv:(atH A v).isSome=true) (h0:upH A k≠0) (h:upH A k=v∨belowH A v (upH A k)=true):belowH A v k=true:=by
 unfold belowH at h⊢
 rw[hv,Bool.true_and] at h⊢
 rw[belowF_step hA]
 simp only[bne_iff_ne,ne_eq,Bool.and_eq_true,Bool.or_eq_true,beq_iff_eq]
 exact⟨h0,h⟩
theorem RightA.kill {A:HL} (hA:RightA A) (v:Nat):RightA (killH A v):=by
 refine⟨fun i x h=>?_,fun i x h hon h0=>?_⟩
 · rw[killH_at,Option.map_eq_some_iff] at h
   obtain⟨y,hy,rfl⟩:=h
   exact hA.lt i y hy
 · rw[killH_at,Option.map_eq_some_iff] at h
   obtain⟨y,hy,rfl⟩:=h
   simp only[Bool.and_eq_true,Bool.not_eq_true',Bool.or_eq_false_iff,decide_eq_false_iff_not] at hon h0⊢
   obtain⟨h1,h2,h3⟩:=hon
   have hup:upH A (i+1)=y.up:=by
    unfold upH
    rw[atH_some.2 ⟨by omega,by simpa using hy,h1⟩]
   rw[atH_kill]
   have hon:=hA.on i y hy h1 h0
   cases hv:(atH A v).isSome with
   | false=>
     have hb:∀k,belowH A v k=false:=fun k=>by unfold belowH;rw[hv,Bool.false_and]
     rw[hb]
     by_cases e:y.up=v
     · rw[e,hv] at hon;cases hon
     · simp[e,hon]
   | true=>
     by_cases e:y.up=v
     · have:=belowH_up hA (k:=i+1) hv (by rw[hup];exact h0) (.inl (by rw[hup];exact e))
       rw[this] at h3;cases h3
     · cases hb:belowH A v y.up with
       | true=>
         have:=belowH_up hA (k:=i+1) hv (by rw[hup];exact h0) (.inr (by rw[hup];exact hb))
         rw[this] at h3;cases h3
       | false=>simp[e,hon]
theorem giveH_right {A:HL} (hA:RightA A) (h r:Nat):RightA (giveH A h r).2:=by
 unfold giveH
 cases e:atH A h with
 | none=>exact hA
 | some x=>
   simp only
   cases h1:(noGive x.r||overR r x.r)
   · simp only[cond_false]
     unfold putH
     split
     · exact hA
     · exact hA.snoc r h (.inr (by rw[e];rfl))
   · exact hA
theorem putH_right {A:HL} (hA:RightA A) (r:Nat):RightA (putH A r 0).2:=by
 unfold putH
 split
 · exact hA
 · exact hA.snoc r 0 (.inl rfl)
theorem revokeH_right {A:HL} (hA:RightA A) (h v:Nat):RightA (revokeH A h v).2:=by
 unfold revokeH
 cases e:atH A h with
 | none=>exact hA
 | some x=>
   cases e2:atH A v with
   | none=>exact hA
   | some y=>
     simp only
     cases h1:mayRv A x h v
     · exact hA
     · exact hA.kill v
open Go.RowKit Go.MapKept
section
variable {P:Program} {k e t:TypeId} {κ:Type} {kv:κ→Value} {ok:κ→Prop} {w w':World} {b:Nat} {l:List (κ×Value)} {ops:Array Oper} {rest:List Oper} {o:Oper} {a:Act} {Q:Exit→Act→World→Prop} {F:Fence} {n:Nat}
theorem RngB.walks {r:Nat} {d:List (κ×Value)} (h:RngB kv ok w b r l d) (hk:KeepsWalks w w'):RngB kv ok w' b r l d:=by
 have h0:=h
 obtain⟨es,clock,since,seen,c0,h1,h2,h3,h4,h5,h6⟩:=h
 exact h0.same ((hk.same b _ h1 rfl).trans h1.symm) ((hk.same r _ h5 rfl).trans h5.symm)
theorem RngB.walk {r:Nat} {d:List (κ×Value)} (h:RngB kv ok w b r l d):∃o:Obj,w.heap[r]? = some o∧o.isWalk=true:=by
 obtain⟨es,clock,since,seen,c0,h1,h2,h3,h4,h5,h6⟩:=h
 exact⟨_,h5,rfl⟩
theorem wpListIn_mapRange (hg:o.guard=none) (m:Operand) (hop:o.op = .range t m) (ht:P.underlying t=some (.map k e)) (hm:a.eval m = .map (some b)) (h:MapB kv ok w b l)
 (hK:∀w',RngB kv ok w' b w.heap.size l []→Below w.heap.size w w'→w'.heap.size=w.heap.size+1→wpListIn F n P ops Q rest (a.put o.dst (.pointer (some ⟨w.heap.size,0,none⟩))) w'):wpListIn F n P ops Q (o::rest) a w:=by
 refine wpListIn_plain hg fun K' hK'=>?_
 obtain⟨w',hrun,r1,r2,r3⟩:=h.range ht
 unfold Oper.wpIn
 refine⟨by simp[Oper.about,hop],?_⟩
 rw[Oper.semAt_plain F _ _ (by rw[hop];intro c hc';cases hc')]
 simp[execOp,hop,hm,hrun,Result.andThen]
 exact hK' _ _ (hK w' r1 r2 r3)
end
section
variable {P:Program} {F:Fence} {n:Nat}
def TurnsX (B:Nat) (hb:Option Nat) (A:World) (row:Option Nat):Prop:=∀r,row=some r→hb=some r∨(B≤r∧∃o:Obj,A.heap[r]? = some o∧o.isWalk=true)
def TurnsL (B:Nat) (A:World) (row:Option Nat):Prop:=∀r,row=some r→B≤r∧∃o:Obj,A.heap[r]? = some o∧o.isCells=false
def KpX (B:Nat) (W W':World):Prop:=KeepsWalks W W'∧Below B W W'
theorem KpX.tr {B:Nat} {X Y Z:World} (h:KpX B X Y) (k:KpX B Y Z):KpX B X Z:=⟨h.1.trans k.1,h.2.trans k.2⟩
theorem KpX.put {B l:Nat} {W:World} {o:Obj} (o':Obj) (hB:B≤l) (h:W.heap[l]? = some o) (hw:o.isWalk=false):KpX B W (W.putObj l o'):=
 ⟨KeepsWalks.putObj _ h hw,(Below.refl B W).grown (grownBy_putObj' W l o') (by have:=(Array.getElem?_eq_some_iff.1 h).1;omega) (fun k e=>by cases e;exact hB)⟩
def SeqX {α:Type} (F:Fence) (n:Nat) (P:Program) (g:Nat) (lb:Array Value) (encs:α→Array Value) (hb:Option Nat) (n₀:Nat) (S Sp:List α→Prop) (N:Nat) (w:World):Prop:=
 ∀ (l:Nat) (J Jx:List α→World→Prop) (W:World),Below w.heap.size w W→(∀s A C row,J s A→A.grownBy C row→TurnsX W.heap.size hb A row→J s C)→
   (∀pre x W1,J pre W1→pre.length<N→YieldAt F (n-1) P l (encs x) W1 fun e W'=>(e = .returned (.bool true)∧J (pre++[x]) W'∧KpX n₀ W1 W')∨(e = .returned (.bool false)∧Jx (pre++[x]) W'))→
   J [] W→
   CallsIn F n P g (#[.func (.yield l) #[] #[]]++lb) W fun e W'=>(∃v,e = .returned v)∧((∃xs,S xs∧J xs W')∨(∃pre,Sp pre∧Jx pre W'))
theorem range_any {α:Type} {g:Operand} {ps:Array Tmp} {assign body:Code} {Q:Exit→Act→World→Prop} {a:Act} {w:World}
 (hro:F.round=none) (h1:1≤n) {gf:Nat} {lb:Array Value} (hg:a.eval g = .func (.func gf) #[] lb) (hFg:F.fn gf) (eg:∀args w,(callFunc gf args).run P w = .ok (.enter gf args) w)
 {encs:α→Array Value} {hb:Option Nat} {n₀:Nat} {S Sp:List α→Prop} {N:Nat} (hn₀:n₀≤w.heap.size) (hhb:∀r,hb=some r→r<w.heap.size) (hseq:SeqX F (n-1) P gf lb encs hb n₀ S Sp N w) (hps:∀x,(encs x).size=ps.size)
 (I:List α→World→Prop) (Ix:Code→List α→World→Prop)
 (hI:∀s A C row,I s A→A.grownBy C row→(∀r,row=some r→hb=some r∨(w.heap.size≤r∧∃o:Obj,A.heap[r]? = some o∧o.isCells=false))→I s C)
 (hIx:∀c s A C row,Ix c s A→A.grownBy C row→TurnsL w.heap.size A row→Ix c s C) (h0:I [] w) (a₁:α→Act)
 (hassign:∀(l:Nat) (x:α) (W:World) (K:Act→World→Prop),K (a₁ x) W→
   assign.wpIn (F.inRound l) (n-1-1) P (Exit.then K (fun _ _ _=>False)) { tmps:=(ps.zip (encs x)).foldl (fun t (p,v)=>t.setIfInBounds p v) a.tmps,defers:=[] } W)
 (hbody:∀(l:Nat) (pre:List α) (x:α) (W:World),I pre W→pre.length<N→body.wpIn (F.inRound l) (n-1-1) P (ownPostG w.heap.size (KpX n₀) I Ix (pre++[x]) W) (a₁ x) W)
 (hdone:∀(D:Nat) (xs:List α) (W:World),w.heap.size≤D→S xs→I xs W→W.heap[D]? = some (.deferred (some []))→Q .normal { a with defers:={ target:=.collected D,args:=#[] }::a.defers } W)
 (hstop:∀(D:Nat) (c:Code) (pre:List α) (W:World),w.heap.size≤D→Sp pre→Ix c pre W→W.heap[D]? = some (.deferred (some []))→c.wpIn F n P Q { a with defers:={ target:=.collected D,args:=#[] }::a.defers } W):
 (Code.rangeFunc g ps assign body).wpIn F n P Q a w:=by
 have hIp:∀{s:List α} {W:World} {l:Nat} {o:Obj} (o':Obj),I s W→w.heap.size≤l→W.heap[l]? = some o→o.isCells=false→I s (W.putObj l o'):=fun {s W l o} o' hi hl h hc=>
  hI s W _ (some l) hi (grownBy_putObj' W l o') fun r e=>by cases e;exact .inr ⟨hl,o,h,hc⟩
 have hXp:∀{c:Code} {s:List α} {W:World} {l:Nat} {o:Obj} (o':Obj),Ix c s W→w.heap.size≤l→W.heap[l]? = some o→o.isCells=false→Ix c s (W.putObj l o'):=fun {c s W l o} o' hi hl h hc=>
  hIx c s W _ (some l) hi (grownBy_putObj' W l o') fun r e=>by cases e;exact⟨hl,o,h,hc⟩
 have hIa:∀{s:List α} {W:World} (o':Obj),I s W→I s (W.alloc o'):=fun {s W} o' hi=>hI s W _ none hi ⟨rfl,rfl,rfl,by simp,fun i hi _=>Below.heap_alloc W o' i hi⟩ fun r e=>by cases e
 refine wpIn_rangeFunc fun fn hfn=>?_
 rw[hro]
 obtain⟨R,hR⟩:∃R:LoopState→Option Code→Loop,R=fun st pe=>{ state:=st,pending:=pe,fn,tmps:=a.tmps,params:=ps,assign,body,defers:=w.heap.size }:=⟨_,rfl⟩
 obtain⟨W1,hW1⟩:∃W1,(w.alloc (.deferred (some []))).alloc (.loop (R .ready none))=W1:=⟨_,rfl⟩
 obtain⟨l,hl⟩:∃l,l=w.heap.size+1:=⟨_,rfl⟩
 obtain⟨D,hD⟩:∃D,D=w.heap.size:=⟨_,rfl⟩
 have L1:W1.heap[l]? = some (.loop (R .ready none)):=by
  rw[←hW1,hl]
  have:=World.alloc_heap_new (w.alloc (.deferred (some []))) (.loop (R .ready none))
  rwa [World.size_alloc] at this
 have K1:W1.heap[D]? = some (.deferred (some [])):=by
  rw[←hW1,hD]
  exact (Below.heap_alloc _ _ _ (by simp)).trans (World.alloc_heap_new w _)
 have S1:w.heap.size≤W1.heap.size:=by rw[←hW1];simp;omega
 have B1:Below w.heap.size w W1:=by rw[←hW1];exact ((Below.refl _ w).alloc (Nat.le_refl _) _).alloc (by simp) _
 have I1:I [] W1:=by rw[←hW1];exact hIa _ (hIa _ h0)
 refine⟨l,[{ target:=.collected w.heap.size,args:=#[] }],W1,{ target:=.fn (.func gf) lb,args:=#[.func (.yield l) #[] #[]] },W1,gf,#[.func (.yield l) #[] #[]]++lb,W1,?_,?_,?_,?_,fun _=>h1,?_⟩
 · rw[←hW1,hR,hl];exact run_enterLoop_outer _ _ _ _ _
 · simp only[resolve,hg]
   simp[go_sem]
 · intro f' hf'
   simp[Target.leads] at hf'
   subst hf'
   exact hFg
 · simp[invoke,go_sem,eg]
 refine (hseq l (fun pre W=>I pre W∧W.heap[l]? = some (.loop (R .ready none))∧W.heap[D]? = some (.deferred (some [])))
  (fun pre W=>∃c,Ix c pre W∧W.heap[l]? = some (.loop (R .done (some c)))∧W.heap[D]? = some (.deferred (some []))) W1 B1 ?_ ?_ ⟨I1,L1,K1⟩).mono ?_
 · rintro s A C row ⟨hi,hl2,hk2⟩ hgr ht
   have far:∀{j:Nat} {o:Obj},w.heap.size≤j→A.heap[j]? = some o→o.isWalk=false→C.heap[j]? = some o:=fun {j o} hj ho hw=>by
    refine (hgr.block j (Array.getElem?_eq_some_iff.1 ho).1 fun e=>?_).trans ho
    rcases ht j e.symm with h | ⟨_,o',h3,h4⟩
    · have:=hhb j h;omega
    · rw[ho] at h3;cases h3;rw[hw] at h4;cases h4
   refine⟨hI s A C row hi hgr fun r e=>?_,far (by omega) hl2 rfl,far (by omega) hk2 rfl⟩
   rcases ht r e with h | ⟨h2,o,h3,h4⟩
   · exact .inl h
   · exact .inr ⟨by omega,o,h3,Obj.not_cells_of_walk h4⟩
 · rintro pre x W ⟨hi,hl2,hk2⟩ hlen
   have hlt:=(Array.getElem?_eq_some_iff.1 hl2).1
   have hy:=run_yield (P:=P) (args:=encs x) hl2 (by rw[hR];exact hps x)
   rw[hR] at hy
   refine⟨fn,_,assign,body,hy,roundIn_of_wpIn hfn (hassign _ x W _ ⟨_,run_beginRound hl2 (by rw[hR]),?_⟩)⟩
   obtain⟨W2,hW2⟩:∃W2,W.putObj l (.loop { R .ready none with state:=.busy })=W2:=⟨_,rfl⟩
   have L2:W2.heap[l]? = some (.loop { R .ready none with state:=.busy }):=by rw[←hW2];exact World.putObj_heap_same hlt
   have K2:W2.heap[D]? = some (.deferred (some [])):=by rw[←hW2];exact (World.putObj_heap_other (by omega)).trans hk2
   have P2:KpX n₀ W W2:=by rw[←hW2];exact KpX.put _ (by omega) hl2 rfl
   have I2:I pre W2:=by rw[←hW2];exact hIp _ hi (by omega) hl2 rfl
   rw[hW2]
   have fin:∀(jump:Option Code) (W3:World),KeepsFrom w.heap.size W2 W3→
    (Instr.endRound l jump).run P W3 = .ok (.bool jump.isNone) (W3.putObj l (.loop (R (if jump.isNone then .ready else .done) jump)))∧W3.heap[l]? = some (.loop { R .ready none with state:=.busy })∧
    (W3.putObj l (.loop (R (if jump.isNone then .ready else .done) jump))).heap[l]? = some (.loop (R (if jump.isNone then .ready else .done) jump))∧
    (W3.putObj l (.loop (R (if jump.isNone then .ready else .done) jump))).heap[D]? = some (.deferred (some [])):=fun jump W3 hk3=>by
    have L3:=hk3.same l _ (by omega) L2 rfl
    have h4:=run_endRound (P:=P) jump L3
    have L4:=L3
    rw[hR] at h4 L3⊢
    exact⟨h4,L3,World.putObj_heap_same (Array.getElem?_eq_some_iff.1 L3).1,(World.putObj_heap_other (by omega)).trans (hk3.same D _ (by omega) K2 rfl)⟩
   refine wpIn_mono (hbody l pre x W2 I2 hlen) ?_
   rintro e a3 W3 hp
   cases e with
   | normal=>
     obtain⟨hk3,hkp3,hi3⟩:=hp
     obtain⟨hr,hl3,hl4,hk4⟩:=fin none W3 hk3
     exact⟨_,_,hr,.inl ⟨rfl,⟨hIp _ hi3 (by omega) hl3 rfl,hl4,hk4⟩,(P2.tr hkp3).tr (KpX.put _ (by omega) hl3 rfl)⟩⟩
   | ret=>
     obtain⟨hk3,hi3⟩:=hp
     obtain⟨hr,hl3,hl4,hk4⟩:=fin (some .ret) W3 hk3
     exact⟨_,_,hr,.inr ⟨rfl,.ret,hXp _ hi3 (by omega) hl3 rfl,hl4,hk4⟩⟩
   | exit id=>
     obtain⟨hk3,hi3⟩:=hp
     obtain⟨hr,hl3,hl4,hk4⟩:=fin (some (.exit id)) W3 hk3
     exact⟨_,_,hr,.inr ⟨rfl,.exit id,hXp _ hi3 (by omega) hl3 rfl,hl4,hk4⟩⟩
   | goto t=>
     obtain⟨hk3,hi3⟩:=hp
     obtain⟨hr,hl3,hl4,hk4⟩:=fin (some (.goto t)) W3 hk3
     exact⟨_,_,hr,.inr ⟨rfl,.goto t,hXp _ hi3 (by omega) hl3 rfl,hl4,hk4⟩⟩
   | panic ch=>exact hp.elim
   | outgrown=>exact hp.elim
 · have hDz:({ target:=.collected w.heap.size,args:=#[] }:Deferred)={ target:=.collected D,args:=#[] }:=by rw[hD]
   rintro e W2 ⟨⟨v,rfl⟩,(⟨xs,hS,hi,hl2,hk2⟩ | ⟨pre,hSp,c,hi,hl2,hk2⟩)⟩
   · have h4:=run_endLoop (P:=P) hl2 (by rw[hR];simp)
     rw[hR] at h4
     refine⟨none,_,h4,?_⟩
     simp only[List.cons_append,List.nil_append]
     rw[hDz]
     exact hdone D xs _ (by omega) hS (hIp _ hi (by omega) hl2 rfl) ((World.putObj_heap_other (by omega)).trans hk2)
   · have h4:=run_endLoop (P:=P) hl2 (by rw[hR];simp)
     rw[hR] at h4
     refine⟨some c,_,h4,?_⟩
     simp only[List.cons_append,List.nil_append]
     rw[hDz]
     exact hstop D c pre _ (by omega) hSp (hXp _ hi (by omega) hl2 rfl) ((World.putObj_heap_other (by omega)).trans hk2)
end
end Go.Proofs.YtgdhinjhbjolgaaGreat
