/-
  Parts of the proof, joined.
-/
import Derived.Test.YtlbjdbaeffacgaaGreatBdl
import Derived.Test.YtlbjdbaeffacgaaGreatBdm
import Derived.Sort.WalkA
import Derived.Lib.Walk
import Derived.WalkKit
import Derived.BigQuiet
import Derived.Deep.Draws
import Derived.Deep.QuietTactic
import Derived.Test.YtlbjdbaeffacgaaGreatBda
import Derived.Sort.WalkB12
import Derived.Sort.WalkD1
import Derived.Sort.WalkD2
import Derived.Deep.RegionWith
import Derived.Sort.Walk7a
import Derived.Sort.Walk7
import Derived.Ground.So_math_bits_Len64
import Derived.Deep.Light
import Derived.Sort.Walk11
import Derived.Sort.WalkB2
import Derived.Sort.WalkB3
import Derived.Sort.WalkC
import Derived.Sort.WalkC4
import Derived.Sort.WalkA6
import Derived.Sort.Walk13
import Derived.Sort.LotD6
import Derived.Sort.WalkA14
import Derived.Sort.LotD7
import Derived.Sort.AssemblyPlain
import Derived.Test.YtlbjdbaeffacgaaGreatBdi
import Derived.Deep.LoopGhost
namespace Go.Proofs.YtlbjdbaeffacgaaGreat
set_option maxHeartbeats 32000000
open Go.RowKit
set_option linter.unusedVariables false
set_option linter.unusedSimpArgs false
def frNew (n:Nat) (l:RnL):Bool:=match l.head?,l.getLast? with
 | some a,some b=>decide (1<a.1)&&decide (a.1<n)&&(decide (1<b.2-1)&&decide (b.2-1<n))
 | _,_=>true
theorem right_all {l:RnL} (h:rightR l=true):∀i r,l[i]? = some r→r.1<r.2∧(∀q,0<i→l[i-1]? = some q→q.2<r.1):=fun i r hr=>by
 have hi:=(List.getElem?_eq_some_iff.1 hr).1
 unfold rightR at h
 have:=List.all_eq_true.1 h i (List.mem_range.2 hi)
 unfold rightI at this
 have e1:l.getD i (0,0)=r:=by rw[List.getD_eq_getElem?_getD,hr];rfl
 rw[e1,Bool.and_eq_true,Bool.or_eq_true,decide_eq_true_eq,decide_eq_true_eq,decide_eq_true_eq] at this
 refine⟨this.1,fun q h0 hq=>?_⟩
 have e2:l.getD (i-1) (0,0)=q:=by rw[List.getD_eq_getElem?_getD,hq];rfl
 rw[e2] at this
 omega
theorem right_up {l:RnL} (h:rightR l=true):∀i r,l[i]? = some r→(∀a,l.head? = some a→a.1+i≤r.1):=by
 intro i
 induction i with
 | zero=>intro r hr a ha;rw[List.head?_eq_getElem?,hr] at ha;injection ha with ha;subst ha;omega
 | succ i ih=>
   intro r hr a ha
   have hi:=(List.getElem?_eq_some_iff.1 hr).1
   obtain⟨q,hq⟩:∃q,l[i]? = some q:=⟨_,List.getElem?_eq_getElem (by omega)⟩
   have h1:=ih q hq a ha
   have h2:=(right_all h (i+1) r hr).2 q (by omega) (by simpa using hq)
   have h3:=(right_all h i q hq).1
   omega
theorem right_down {l:RnL} (h:rightR l=true):∀k i r,l[i]? = some r→i+1+k=l.length→(∀b,l.getLast? = some b→r.2≤b.2):=by
 intro k
 induction k with
 | zero=>
   intro i r hr hi b hb
   rw[List.getLast?_eq_getElem?,show l.length-1=i by omega,hr] at hb
   injection hb with hb
   subst hb
   exact Nat.le_refl _
 | succ k ih=>
   intro i r hr hi b hb
   obtain⟨q,hq⟩:∃q,l[i+1]? = some q:=⟨_,List.getElem?_eq_getElem (by omega)⟩
   have h1:=ih (i+1) q hq (by omega) b hb
   have h2:=(right_all h (i+1) q hq).2 r (by omega) (by simpa using hr)
   have h3:=(right_all h (i+1) q hq).1
   omega
theorem frNew_in {n:Nat} {l:RnL} (h:rightR l=true) (hf:frNew n l=true):∀r∈l,1<r.1∧r.2≤n:=fun r hr=>by
 obtain⟨i,hi⟩:=List.getElem?_of_mem hr
 have hil:=(List.getElem?_eq_some_iff.1 hi).1
 obtain⟨a,ha⟩:∃a,l.head? = some a:=⟨_,by rw[List.head?_eq_getElem?];exact List.getElem?_eq_getElem (by omega)⟩
 obtain⟨b,hb⟩:∃b,l.getLast? = some b:=⟨_,by rw[List.getLast?_eq_getElem?];exact List.getElem?_eq_getElem (by omega)⟩
 have h1:=right_up h i r hi a ha
 have h2:=right_down h (l.length-i-1) i r hi (by omega) b hb
 unfold frNew at hf
 rw[ha,hb] at hf
 simp only[Bool.and_eq_true,decide_eq_true_eq] at hf
 omega
theorem rnl_num {l:RnL} (h:rightR l=true) (hb:∀r∈l,r.2≤4096):l.length≤4096:=by
 rcases Nat.eq_zero_or_pos l.length with h0 | h0
 · omega
 · obtain⟨r,hr⟩:∃r,l[l.length-1]? = some r:=⟨_,List.getElem?_eq_getElem (by omega)⟩
   obtain⟨a,ha⟩:∃a,l.head? = some a:=⟨_,by rw[List.head?_eq_getElem?];exact List.getElem?_eq_getElem (by omega)⟩
   have h1:=right_up h _ r hr a ha
   have h2:=hb r (List.mem_of_getElem? hr)
   have h3:=(right_all h _ r hr).1
   omega
def newT (l:RnL):PgP:=⟨l,[],[],[],[],[],0,0,false,false⟩
theorem wrap_i64Pn (k:Nat) (h:k<9223372036854775808):IntKind.i64.wrap (k:Int)=(k:Int):=by
 simp only[IntKind.wrap]
 have:IntKind.i64.bits=64:=rfl
 simp[IntKind.signed,IntKind.bits]
 omega
theorem wrap_i64P {z:Int} (h0:0≤z) (h1:z<9223372036854775808):IntKind.i64.wrap z=z:=by
 obtain⟨k,rfl⟩:∃k:Nat,z=(k:Int):=⟨z.toNat,by omega⟩
 exact wrap_i64Pn k (by omega)
theorem PgN.upd {w w':World} {O O':Tgm} {p:Nat} {b:PgK} {T T':PgP} {v:Value} (h:PgN w O p b T) (s:Wr (fun t=>t=(p,1)) w O w' O') (hbox:PcB w' p (pcS { b with fv:=v } T')) (hfree:RuB w' 0 v T'.fr) (htf:∀k,v.ownBlock=some k→O' k=(0,0))
 (ekn:T'.kn=T.kn) (ewa:T'.wa=T.wa) (epu:T'.pu=T.pu) (edr:T'.dr=T.dr) (epi:T'.pi=T.pi) (hrgt:rightR T'.fr=true) (hokr:∀r∈T'.fr,1<r.1∧r.2≤4096) (hnum:T'.fr.length≤4096) (hcmo:T'.cm<18446744073709551616∧T'.la<18446744073709551616) (hopn:T'.cm≠0→T.cm≠0):PgN w' O' p { b with fv:=v } T':=by
 obtain⟨vs,k1,k2⟩:=h.kn
 have hp:=h.pos
 have fz:=fun (k:Nat) (i:Nat) (hi:i≠1) (e:O k=(p,i)) (q:O k=(p,1))=>hi (by rw[e] at q;injection q)
 have f0:¬((0:Nat),(0:Nat))=(p,1):=fun e=>by injection e with e;omega
 exact {
  box:=hbox
  pos:=h.pos
  tb:=(s.tg _ (CbB.lt h.box)).trans h.tb
  free:=hfree
  tf:=htf
  kn:=⟨vs,k1.same (s.fr.block _ k1.lt (fz _ 2 (by decide) h.tk)),by rw[ekn];exact k2.imp fun v a t hv=>hv.wr s f0⟩
  tk:=(s.tg _ k1.lt).trans h.tk
  wa:=by rw[ewa];exact h.wa.same (s.fr.block _ h.wa.lt (fz _ 3 (by decide) h.tw))
  tw:=(s.tg _ h.wa.lt).trans h.tw
  pu:=by rw[epu];exact h.pu.wr s (fun e=>by injection e with _ e;cases e)
  dr:=by rw[edr];exact h.dr.wr s (fun e=>by injection e with _ e;cases e)
  pi:=by rw[epi];exact h.pi.same (s.fr.block _ h.pi.lt (fz _ 6 (by decide) h.ti))
  ti:=(s.tg _ h.pi.lt).trans h.ti
  rgt:=hrgt
  okr:=hokr
  num:=hnum
  cmo:=hcmo
  opn:=fun e=>h.opn (hopn e) }
def mkO (O:Tgm) (N:Nat):Tgm:=fun k=>if k<N then O k else if k=N then (N+1+1+1,2) else if k=N+1 then (N+1+1+1,3) else if k=N+1+1 then (N+1+1+1,6) else if k=N+1+1+1 then (N+1+1+1,1) else (0,0)
theorem mkO_0 {O:Tgm} {N:Nat}:mkO O N N=(N+1+1+1,2):=by unfold mkO;rw[if_neg (by omega),if_pos rfl]
theorem mkO_1 {O:Tgm} {N:Nat}:mkO O N (N+1)=(N+1+1+1,3):=by unfold mkO;rw[if_neg (by omega),if_neg (by omega),if_pos rfl]
theorem mkO_2 {O:Tgm} {N:Nat}:mkO O N (N+1+1)=(N+1+1+1,6):=by unfold mkO;rw[if_neg (by omega),if_neg (by omega),if_neg (by omega),if_pos rfl]
theorem mkO_3 {O:Tgm} {N:Nat}:mkO O N (N+1+1+1)=(N+1+1+1,1):=by unfold mkO;rw[if_neg (by omega),if_neg (by omega),if_neg (by omega),if_neg (by omega),if_pos rfl]
theorem mkO_new {O:Tgm} {N k:Nat} (h:N+1+1+1<k):mkO O N k=(0,0):=by
 unfold mkO
 rw[if_neg (by omega),if_neg (by omega),if_neg (by omega),if_neg (by omega),if_neg (by omega)]
theorem mkO_old {O:Tgm} {N k:Nat} (h:k<N):mkO O N k=O k:=by unfold mkO;rw[if_pos h]
def newW (w:World) (d rg lg:Nat):World:=(((w.alloc (.map #[] 0)).alloc (.map #[] 0)).alloc (.map #[] 0)).alloc (.cells #[.pointer (some ⟨d,0,none⟩),.pointer (some ⟨rg,0,none⟩),.pointer (some ⟨lg,0,none⟩),.slice none 0 0,.map (some w.heap.size),.map (some (w.heap.size+1)),.map none,.map none,.map (some (w.heap.size+1+1)),.int .u64 0,.int .u64 0,.bool false,.bool false] 101)
theorem new_begin (w:World) (O:Tgm) (d rg lg:Nat):PgN (newW w d rg lg) (mkO O w.heap.size) (w.heap.size+1+1+1) ⟨d,rg,lg,.slice none 0 0,w.heap.size,w.heap.size+1,.map none,.map none,w.heap.size+1+1⟩ (newT [])∧Below w.heap.size w (newW w d rg lg)∧(newW w d rg lg).heap.size=w.heap.size+1+1+1+1:=by
 have s1:(w.alloc (.map #[] 0)).heap.size=w.heap.size+1:=by simp
 have s2:((w.alloc (.map #[] 0)).alloc (.map #[] 0)).heap.size=w.heap.size+1+1:=by simp
 have s3:(((w.alloc (.map #[] 0)).alloc (.map #[] 0)).alloc (.map #[] 0)).heap.size=w.heap.size+1+1+1:=by simp
 have m1:MapB u32Vp u32Okp (newW w d rg lg) w.heap.size []:=(((MapB.new u32Vp u32Okp w).alloc _).alloc _).alloc _
 have m2:MapB u32Vp u32Okp (newW w d rg lg) (w.heap.size+1) []:=by
  have h:=((MapB.new u32Vp u32Okp (w.alloc (.map #[] 0))).alloc (.map #[] 0)).alloc (.cells #[.pointer (some ⟨d,0,none⟩),.pointer (some ⟨rg,0,none⟩),.pointer (some ⟨lg,0,none⟩),.slice none 0 0,.map (some w.heap.size),.map (some (w.heap.size+1)),.map none,.map none,.map (some (w.heap.size+1+1)),.int .u64 0,.int .u64 0,.bool false,.bool false] 101)
  rw[s1] at h
  exact h
 have m3:MapB u32Vp u32Okp (newW w d rg lg) (w.heap.size+1+1) []:=by
  have h:=(MapB.new u32Vp u32Okp ((w.alloc (.map #[] 0)).alloc (.map #[] 0))).alloc (.cells #[.pointer (some ⟨d,0,none⟩),.pointer (some ⟨rg,0,none⟩),.pointer (some ⟨lg,0,none⟩),.slice none 0 0,.map (some w.heap.size),.map (some (w.heap.size+1)),.map none,.map none,.map (some (w.heap.size+1+1)),.int .u64 0,.int .u64 0,.bool false,.bool false] 101)
  rw[s2] at h
  exact h
 refine⟨?_,?_,?_⟩
 · exact {
    box:=by
     have h:=CbB.new (((w.alloc (.map #[] 0)).alloc (.map #[] 0)).alloc (.map #[] 0)) 101 #[.pointer (some ⟨d,0,none⟩),.pointer (some ⟨rg,0,none⟩),.pointer (some ⟨lg,0,none⟩),.slice none 0 0,.map (some w.heap.size),.map (some (w.heap.size+1)),.map none,.map none,.map (some (w.heap.size+1+1)),.int .u64 0,.int .u64 0,.bool false,.bool false]
     rw[s3] at h
     exact h
    pos:=Nat.succ_pos _
    tb:=mkO_3
    free:=RuB.nil _ _
    tf:=fun k hk=>by cases hk
    kn:=⟨[],m1,trivial⟩
    tk:=mkO_0
    wa:=m2
    tw:=mkO_1
    pu:=.inl ⟨rfl,rfl⟩
    dr:=.inl ⟨rfl,rfl⟩
    pi:=m3
    ti:=mkO_2
    rgt:=rfl
    okr:=fun r hr=>by cases hr
    num:=Nat.zero_le _
    cmo:=⟨by decide,by decide⟩
    opn:=fun e=>absurd rfl e }
 · exact ((((Below.refl _ _).alloc (Nat.le_refl _) _).alloc (by simp) _).alloc (by simp;omega) _).alloc (by simp;omega) _
 · unfold newW;simp
theorem new_end {w W0 w7:World} {O:Tgm} {d rg lg m c7:Nat} {A7:Option Addr} {l:RnL} (N1:PgN W0 (mkO O w.heap.size) (w.heap.size+1+1+1) ⟨d,rg,lg,.slice none 0 0,w.heap.size,w.heap.size+1,.map none,.map none,w.heap.size+1+1⟩ (newT [])) (N2:Below w.heap.size w W0) (N3:W0.heap.size=w.heap.size+1+1+1+1) (B7:Below W0.heap.size W0 w7)
 (V7:RuB w7 (w.heap.size+1+1+1+1) (.slice A7 m c7) l) (hr:rightR l=true) (hk:∀r∈l,1<r.1∧r.2≤4096) (hl:l.length≤4096):
 ∃p O',Ending.returned (.tuple #[.pointer (some ⟨w.heap.size+1+1+1,0,none⟩),.int .i64 0])=Ending.returned (.tuple #[.pointer (some ⟨p,0,none⟩),.int .i64 0])∧PgM (w7.setCell ⟨w.heap.size+1+1+1,3,none⟩ (.slice A7 m c7)) O' p d rg lg (newT l)∧Wr (fun _=>False) w O (w7.setCell ⟨w.heap.size+1+1+1,3,none⟩ (.slice A7 m c7)) O'∧w.heap.size≤p:=by
 have b0:Below w.heap.size w (w7.setCell ⟨w.heap.size+1+1+1,3,none⟩ (.slice A7 m c7)):=(N2.trans (B7.mono N2.size)).setCell (by show w.heap.size≤w.heap.size+1+1+1;omega) _
 refine⟨w.heap.size+1+1+1,mkO O w.heap.size,rfl,⟨_,N1.upd (T':=newT l) (v:=.slice A7 m c7) ?_ ?_ ?_ ?_ rfl rfl rfl rfl rfl hr hk hl ⟨show 0<18446744073709551616 by decide,show 0<18446744073709551616 by decide⟩ id,rfl,rfl,rfl⟩,Wr.of b0 _ (fun k hk=>mkO_old hk),by omega⟩
 · exact⟨(Fr.of B7 _).trW (fr_setD w7 (w.heap.size+1+1+1) 3 (.slice A7 m c7)) |>.imp fun k hk=>by
    rw[hk];exact mkO_3,fun _ _=>rfl⟩
 · exact CbB.set ((show CbB _ _ _ _ from N1.box).ab B7) 3 _
 · exact row_fr (row_low V7 (Nat.zero_le _)) (fr_setD w7 (w.heap.size+1+1+1) 3 (.slice A7 m c7)) (fun k hk e=>by have:=own_ge9 V7 k hk;omega)
 · intro k hk
   have:=own_ge9 V7 k hk
   exact mkO_new (by omega)
set_option maxRecDepth 100000 in
theorem new_ok {w:World} {O:Tgm} {d rg lg n c:Nat} {A:Option Addr} {l:RnL} {D:DvS} (hd:DvM w O d D) (hr:RnB w A n c l) (hn4:D.n≤4096) (h1:rightR l=true) (h2:frNew D.n l=true):
 Calls Tryz.prog 9 #[.pointer (some ⟨d,0,none⟩),.pointer (some ⟨rg,0,none⟩),.pointer (some ⟨lg,0,none⟩),.slice A n c] w fun e w'=>∃p O',e = .returned (.tuple #[.pointer (some ⟨p,0,none⟩),.int .i64 0])∧PgM w' O' p d rg lg (newT l)∧Wr (fun _=>False) w O w' O'∧w.heap.size≤p:=by
 have hmm:∀W:World,(Instr.makeMap 97 none).run Tryz.prog W = .ok (.map (some W.heap.size)) (W.alloc (.map #[] 0)):=fun _=>rfl
 have hmb:∀W:World,(Instr.makeMap 98 none).run Tryz.prog W = .ok (.map (some W.heap.size)) (W.alloc (.map #[] 0)):=fun _=>rfl
 have hmi:∀W:World,(Instr.makeMap 99 none).run Tryz.prog W = .ok (.map (some W.heap.size)) (W.alloc (.map #[] 0)):=fun _=>rfl
 have HD:=Lib.hid hd
 have HR:=Lib.hid hr
 have HP:=Lib.hid (And.intro hn4 (And.intro h1 h2))
 clear hd hr hn4 h1 h2
 go_enter Tryz.func9,Tryz.ntmps9
 go_wp2_with fail
 obtain⟨W0,hW0⟩:∃W0,newW w d rg lg=W0:=⟨_,rfl⟩
 have hN:=new_begin w O d rg lg
 rw[hW0] at hN
 unfold newW at hW0
 rw[hW0]
 clear hW0
 obtain⟨n1,n2,n3⟩:=hN
 have N1:=Lib.hid n1
 have N2:=Lib.hid n2
 have N3:=Lib.hid n3
 have HR0:=Lib.hid (HR.out.ab n2)
 clear n1 n2 n3 hmm hmb hmi
 refine (right_any' A n c l W0 HR0.out).mono ?_
 rw[HP.out.2.1]
 rintro e w1 ⟨rfl,hb1⟩
 have B1:=Lib.hid (N2.out.trans (show Below w.heap.size W0 w1 from hb1.mono N2.out.size))
 have B01:=Lib.hid hb1
 clear hb1
 have S0:Hid (w.heap.size+1+1+1+1≤w1.heap.size):=Lib.hid (by have:=B01.out.size;have:=N3.out;omega)
 have HLn:Hid (l.length≤4096):=Lib.hid (rnl_num HP.out.2.1 (fun r hr=>(Nat.le_trans (frNew_in HP.out.2.1 HP.out.2.2 r hr).2 HP.out.1)))
 have HK:Hid (∀r∈l,1<r.1∧r.2≤4096):=Lib.hid fun r hr=>⟨(frNew_in HP.out.2.1 HP.out.2.2 r hr).1,Nat.le_trans (frNew_in HP.out.2.1 HP.out.2.2 r hr).2 HP.out.1⟩
 by_cases hl0:l=[]
 · subst hl0
   obtain rfl:n=0:=HR.out.len.symm
   have k3:w1.cell? ⟨w.heap.size+1+1+1,3,none⟩=some (.slice none 0 0):=((show CbB _ _ _ _ from N1.out.box).ab B01.out).cell (k:=3) rfl
   go_wp2_with (first
    | (refine wpList_appR rfl (.tmp 63) (.tmp 64) rfl (RuB.nil _ (w.heap.size+1+1+1+1)) rfl rfl (HR0.out.ab B01.out) (by have:=HLn.out;have:=HR.out.len;simp only[List.length_nil] at *;omega) S0.out ?_
       intro v7 w7 hv7 hg7
       obtain⟨A7,c7,rfl,_,_⟩:=hv7.rn
       rw[List.nil_append] at hv7
       have hb7:Below W0.heap.size W0 w7:=below_grownR B01.out hg7 (by intro g hg;cases hg) B01.out.size
       have k7:w7.cell? ⟨w.heap.size+1+1+1,3,none⟩=some (.slice none 0 0):=((show CbB _ _ _ _ from N1.out.box).ab hb7).cell (k:=3) rfl
       have f7:w7.frozen? ⟨w.heap.size+1+1+1,3,none⟩=false:=((show CbB _ _ _ _ from N1.out.box).ab hb7).free 3
       have V7:=Lib.hid hv7
       have B7:=Lib.hid hb7
       clear hv7 hg7 hb7))
   go_ret2
   exact new_end N1.out N2.out N3.out B7.out V7.out HP.out.2.1 HK.out HLn.out
 · have h0n:0<n:=by have:=HR.out.len;have:=List.length_pos_iff.2 hl0;omega
   obtain⟨m,hm⟩:∃m,n=m+1:=⟨n-1,by omega⟩
   obtain⟨ra,hra⟩:∃ra,l[0]? = some ra:=⟨_,List.getElem?_eq_getElem (by have:=HR.out.len;omega)⟩
   obtain⟨rb,hrb⟩:∃rb,l[m]? = some rb:=⟨_,List.getElem?_eq_getElem (by have:=HR.out.len;omega)⟩
   have hfa:=HP.out.2.2
   unfold frNew at hfa
   rw[List.head?_eq_getElem?,hra,List.getLast?_eq_getElem?,show l.length-1=m by have:=HR.out.len;omega,hrb] at hfa
   simp only[Bool.and_eq_true,decide_eq_true_eq] at hfa
   have hna:=(HK.out ra (List.mem_of_getElem? hra)).2
   have hnb:=(HK.out rb (List.mem_of_getElem? hrb)).2
   obtain⟨x,rfl,hxl,hca⟩:=HR.out.at hra
   rw[show x.add (0*2)=x from by rw[Nat.zero_mul];exact addr_zero x] at hca
   obtain⟨x',he,_,hcb⟩:=HR.out.at hrb
   injection he with he
   subst he
   have KA:=Lib.hid hca
   have KB:=Lib.hid hcb
   have r0:=(KA.out _ B1.out).1
   have r1:=(KB.out _ B1.out).2
   have g0:(0:Int)<(n:Int):=by omega
   have g1:IntKind.i64.wrap ((n:Int)-1)=(m:Int):=by
    have h1:=HR.out.cap
    have h2:=HR.out.max
    unfold maxLen at h2
    rw[show (n:Int)-1=(m:Int) by omega]
    exact wrap_i64P (by omega) (by omega)
   have g2:(m:Int)<(n:Int):=by omega
   have g3:(0:Int)≤(m:Int):=by omega
   have g4:IntKind.u32.wrap ((rb.2:Int)-1)=((rb.2-1:Nat):Int):=by
    rw[show (rb.2:Int)-1=((rb.2-1:Nat):Int) by omega]
    exact wrap_u32 _ (by omega) (by omega)
   have HF:=Lib.hid hfa
   have HNA:Hid (ra.1<4294967296∧rb.2-1<4294967296):=Lib.hid (by have:=HP.out.1;omega)
   have DH:Hid (∀W,Below W0.heap.size W0 W→∀q:Nat,q<4294967296→Calls Tryz.prog 30 #[.pointer (some ⟨w.heap.size+1+1+1,0,none⟩),.int .u32 (q:Int)] W fun e w'=>e = .returned (.bool (decide (1<q)&&decide (q<D.n)))∧W=w'):=Lib.hid fun W hW q hq=>by
    obtain⟨g1,g2,wv,k1,_⟩:=HD.out
    exact phas_any q hq ((show CbB _ _ _ _ from N1.out.box).ab hW) (k1.ab (N2.out.trans (hW.mono N2.out.size)))
   clear hl0 hra hrb hfa hna hnb hxl hca hcb h0n hm
   go_wp2_with fail
   refine (DH.out w1 B01.out ra.1 HNA.out.1).mono ?_
   rintro e w' ⟨rfl,rfl⟩
   rw[show (decide (1<ra.1)&&decide (ra.1<D.n))=true from by rw[decide_eq_true HF.out.1.1,decide_eq_true HF.out.1.2];rfl]
   go_wp2_with fail
   refine (DH.out w1 B01.out (rb.2-1) HNA.out.2).mono ?_
   rintro e w' ⟨rfl,rfl⟩
   rw[show (decide (1<rb.2-1)&&decide (rb.2-1<D.n))=true from by rw[decide_eq_true HF.out.2.1,decide_eq_true HF.out.2.2];rfl]
   clear r0 r1 g0 g1 g2 g3 g4 DH
   have k3:w1.cell? ⟨w.heap.size+1+1+1,3,none⟩=some (.slice none 0 0):=((show CbB _ _ _ _ from N1.out.box).ab B01.out).cell (k:=3) rfl
   go_wp2_with (first
    | (refine wpList_appR rfl (.tmp 63) (.tmp 64) rfl (RuB.nil _ (w.heap.size+1+1+1+1)) rfl rfl (HR0.out.ab B01.out) (by have:=HLn.out;have:=HR.out.len;simp only[List.length_nil] at *;omega) S0.out ?_
       intro v7 w7 hv7 hg7
       obtain⟨A7,c7,rfl,_,_⟩:=hv7.rn
       rw[List.nil_append] at hv7
       have hb7:Below W0.heap.size W0 w7:=below_grownR B01.out hg7 (by intro g hg;cases hg) B01.out.size
       have k7:w7.cell? ⟨w.heap.size+1+1+1,3,none⟩=some (.slice none 0 0):=((show CbB _ _ _ _ from N1.out.box).ab hb7).cell (k:=3) rfl
       have f7:w7.frozen? ⟨w.heap.size+1+1+1,3,none⟩=false:=((show CbB _ _ _ _ from N1.out.box).ab hb7).free 3
       have V7:=Lib.hid hv7
       have B7:=Lib.hid hb7
       clear hv7 hg7 hb7))
   go_ret2
   exact new_end N1.out N2.out N3.out B7.out V7.out HP.out.2.1 HK.out HLn.out
abbrev KnL:=List (Nat×(Lb×List Nat))
def getK (x:Nat) (l:KnL):Option (Lb×List Nat):=(l.find? fun p=>decide (p.1=x)).map (·.2)
section
variable {w w':World} {O O':Tgm}
theorem KnV.look (x:Nat):∀{vs:List (Nat×Value)} {l:KnL},KnV w O vs l→
 (lookL x vs=none∧getK x l=none)∨∃v k,lookL x vs=some v∧getK x l=some k∧PgV w O v k.1 k.2
 | [],[],_=>.inl ⟨rfl,rfl⟩
 | p :: ps,q::qs,h=>by
   have ih:=KnV.look x h.2
   obtain⟨⟨h1,h2⟩,h3⟩:=h
   unfold lookL getK at ih⊢
   by_cases hx:p.1=x
   · rw[List.find?_cons_of_pos (by simpa using hx),List.find?_cons_of_pos (by rw[←h1];simpa using hx)]
     exact .inr ⟨_,_,rfl,rfl,h2⟩
   · rw[List.find?_cons_of_neg (by simpa using hx),List.find?_cons_of_neg (by rw[←h1];simpa using hx)]
     exact ih
 | [],_::_,h=>h.elim
 | _::_,[],h=>h.elim
end
section
variable {w:World} {O:Tgm} {p d rg lg:Nat} {b:PgK} {T:PgP}
set_option maxRecDepth 100000 in
theorem failed_same {S:PcS} (h:PcB w p S) (hf:S.fa=false) (e:Nat) (he:e≤1000):Calls Tryz.prog 69 #[.pointer (some ⟨p,0,none⟩),.int .i64 (e:Int)] w fun r w'=>r = .returned (.int .i64 (e:Int))∧PcB w' p { S with fa:=!decide (e=0) }∧Fr w w' (fun q=>q=p):=by
 have c12:w.cell? ⟨p,12,none⟩=some (.bool false):=by rw[←hf];exact CbB.cell h (k:=12) rfl
 have f12:=CbB.free h 12
 have H:=Lib.hid fun z=>CbB.set h 12 (.bool z)
 clear h hf
 by_cases h0:e=0
 · subst h0
   go_enter Tryz.func69,Tryz.ntmps69
   go_wp2_with fail
   go_ret
   exact⟨rfl,H.out false,fr_setD _ _ _ _⟩
 · have e0:decide (e=0)=false:=by simp;omega
   have e1:((e:Int) != 0)=true:=by simp;omega
   have e2:¬(e:Int)=0:=by omega
   clear h0 he
   go_enter Tryz.func69,Tryz.ntmps69
   go_wp2_with fail
   go_ret
   refine⟨rfl,?_,fr_setD _ _ _ _⟩
   rw[e0]
   exact H.out true
end
theorem PgN.puB {w:World} {O:Tgm} {p a:Nat} {b:PgK} {T:PgP} (h:PgN w O p b T) (ha:b.pv = .map (some a)):MapB u32Vp u32Okp w a T.pu∧O a=(p,4):=by
 rcases h.pu with ⟨e,_⟩ | ⟨a',e,h1,h2⟩
 · rw[ha] at e;cases e
 · rw[ha] at e
   injection e with e
   injection e with e
   subst e
   exact⟨h1,h2⟩
end Go.Proofs.YtlbjdbaeffacgaaGreat
namespace Go.Proofs.YtlbjdbaeffacgaaGreat.U32
open Go.RowKit Go.Sort
set_option linter.unusedVariables false
abbrev encE:Int→Value:=fun x=>Value.int .u32 x
theorem s_cmp_isNaN (x:Int) (w:World):Calls Tryz.prog 149 #[.int .u32 x] w fun e w'=>e = .returned (.bool false)∧w'=w:=by
 go_enter Tryz.func149,Tryz.ntmps149
 go_wp2
 go_ret
 exact⟨by simp,rfl⟩
theorem s_cmp_Less (x y:Int) (w:World):Calls Tryz.prog 118 #[.int .u32 x,.int .u32 y] w fun e w'=>e = .returned (.bool (Sort.ltInt x y))∧w'=w:=by
 go_enter Tryz.func118,Tryz.ntmps118
 go_wp2_with (go_at_call 149;refine (s_cmp_isNaN _ _).mono ?_;rintro e w' ⟨rfl,rfl⟩)
 go_ret
 exact⟨rfl,rfl⟩
set_option maxRecDepth 1000000 in
theorem s_insertionSort (blk off cap a b:Nat) (d:Array Int) (w:World) (hH:Holds (Value.int .u32) w blk off d) (hab:a≤b) (hb:b≤d.size) (hsz:d.size<4611686018427387904):
 Calls Tryz.prog 112 #[.slice (some ⟨blk,off,none⟩) d.size cap,.int .i64 a,.int .i64 b] w fun e w'=>
  e = .returned (.tuple #[])∧∃n,w'=putRow (Value.int .u32) (Sort.ahead w n) blk off (Sort.insertionSort ltInt d a b):=by
 go_enter Tryz.func112,Tryz.ntmps112
 go_wp2
 go_loopw [6] (fun vi wr=>∃(i n:Nat) (dk:Array Int),vi = .int .i64 i∧a<i∧i≤b+1∧dk.size=d.size∧wr=putRow (Value.int .u32) (Sort.ahead w n) blk off dk∧
  insOuter ltInt a b i dk=insOuter ltInt a b (a+1) d) (fun vi _=>b+1-(intOf vi).toNat)
 case atStart=>exact⟨a+1,0,d,by go_num,by omega,by omega,rfl,(putRow_self _ _ _ _ _ hH).symm,rfl⟩
 case round=>
  obtain⟨i,n,dk,rfl,hai,hib,hsk,hwr,hO⟩:=hrel
  have HO:Hid (insOuter ltInt a b i dk=insOuter ltInt a b (a+1) d):=hO
  clear hO
  go_wp2
  ·
   go_loopw [7] (fun vj wr2=>∃(j m:Nat) (dj:Array Int),vj = .int .i64 j∧a≤j∧j≤i∧dj.size=d.size∧wr2=putRow (Value.int .u32) (Sort.ahead w m) blk off dj∧
    insInner ltInt a j dj=insInner ltInt a i dk) (fun vj _=>(intOf vj).toNat)
   case atStart=>exact⟨i,n,dk,rfl,by omega,Nat.le_refl _,hsk,rfl,rfl⟩
   case round=>
    obtain⟨j,m,dj,rfl,haj,hji,hsj,hw2,hI⟩:=hrel
    have hlt:i<b:=by assumption
    obtain⟨G,hG⟩:∃G:Nat→Int,∀t,G t=dj[t]!:=⟨fun t=>dj[t]!,fun _=>rfl⟩
    have hcw:∀t,t<d.size→wr.cell? ⟨blk,off+t,none⟩=some (.int .u32 (G t)):=fun t ht=>by
     rw[hw2,hG];exact cell?_putRow _ _ _ _ d dj (holds_ahead _ _ _ _ _ _ hH) hsj t (by omega)
    have hfw:∀t,t<d.size→wr.frozen? ⟨blk,off+t,none⟩=false:=fun t ht=>by
     rw[hw2,frozen?_putRow];exact ((holds_ahead _ _ m _ _ _ hH) t ht).2
    have HW:Hid (wr=putRow (Value.int .u32) (Sort.ahead w m) blk off dj):=hw2
    have HG:Hid (∀t,G t=dj[t]!):=hG
    have HI:Hid (insInner ltInt a j dj=insInner ltInt a i dk):=hI
    clear hw2 hG hI hH
    have out:(j≤a∨ltInt dj[j]! dj[j-1]! = false)→∀q,∃i' n' dk',Value.int .i64 ((i:Int)+1) = .int .i64 (i':Nat)∧a<i'∧i'≤b+1∧dk'.size=d.size∧
     wr.drewN q=putRow (Value.int .u32) (Sort.ahead w n') blk off dk'∧insOuter ltInt a b i' dk'=insOuter ltInt a b (a+1) d:=fun hs q=>
     ⟨i+1,m+q,dj,by go_num,by omega,by omega,hsj,by rw[HW.out];exact putRow_drewN _ _ _ _ _ _ _,
      by rw[←HO.out,insOuter_go _ _ _ _ _ hlt,←HI.out,insInner_stop _ _ _ _ hs]⟩
    have OUT:Hid _:=out
    clear out
    go_wp2
    by_cases hja:a<j
    · go_quiet (first | (go_at_call 118;refine Calls.quiet_of_same (s_cmp_Less _ _ _)))
      go_wp2
      ·
       have hl:ltInt (G j) (G (j-1))=true:=by assumption
       go_region
       all_goals go_wp2
       go_roundw
       case rel=>
        refine⟨j-1,m+(nq+1),swp dj j (j-1),by congr 1;omega,by omega,by omega,by rw[size_swp];exact hsj,?_,?_⟩
        · rw[HW.out,HG.out,HG.out]
          exact swap_worldA _ w m (nq+1) blk off dj j (j-1) (by omega) (by omega)
        · rw[←HI.out,insInner_go ltInt a j dj hja (by rw[←HG.out,←HG.out];exact hl)]
       case measure=>simp[intOf];omega
      ·
       have hl:ltInt (G j) (G (j-1))=false:=by assumption
       go_roundw
       case rel=>exact OUT.out (Or.inr (by rw[←HG.out,←HG.out];exact hl)) nq
       case measure=>simp[intOf];omega
    · go_quiet (first | (go_at_call 118;refine Calls.quiet_of_same (s_cmp_Less _ _ _)))
      go_wp2
      go_roundw
      case rel=>exact OUT.out (Or.inl (by omega)) nq
      case measure=>simp[intOf];omega
  ·
   have hge:¬i<b:=by assumption
   go_end0
   exact⟨rfl,n,by unfold Sort.insertionSort;rw[←HO.out,insOuter_stop _ _ _ _ _ hge]⟩
theorem holds_asideE {w:World} {blk off sb so n t:Nat} {d:Array Int} (h:Holds (Value.int .u32) w blk off d) (hne:sb≠blk):Holds (Value.int .u32) (putRow (Value.int .i64) (Sort.ahead w n) sb so (one t)) blk off d:=fun j hj=>
 ⟨(cell?_putRow_other _ _ _ _ _ _ (Or.inl (Ne.symm hne))).trans (h j hj).1,(frozen?_putRow ..).trans (h j hj).2⟩
open Go.Sort Go.RowKit
set_option maxRecDepth 1000000 in
theorem s_reverseRange (blk off cap:Nat) (d:Array Int) (a b:Nat) (w:World) (hH:Holds encE w blk off d) (hab:a≤b) (hb:b≤d.size) (hsz:d.size<4611686018427387904):
 Calls Tryz.prog 116 #[.slice (some ⟨blk,off,none⟩) d.size cap,.int .i64 a,.int .i64 b] w fun e w'=>e = .returned (.tuple #[])∧∃n,w'=putRow encE (Sort.ahead w n) blk off (reverseRange d a b):=by
 go_enter Tryz.func116,Tryz.ntmps116
 go_wp2
 go_loopg [6,7] (b-a) (fun k s6 s7 wr=>∃(i jn:Nat) (jz:Int) (dk:Array Int) (n:Nat),s6 = .int .i64 i∧s7 = .int .i64 jz∧((i:Int)<jz→jz=jn∧jn<d.size)∧(¬(i:Int)<jz→¬i<jn)∧jn-i≤k∧
  dk.size=d.size∧wr=putRow encE (Sort.ahead w n) blk off dk∧reverseLoop i jn dk=reverseLoop a (b-1) d)
 case atStart=>exact⟨a,b-1,(b:Int)-1,d,0,rfl,rfl,fun h=>⟨by omega,by omega⟩,fun h=>by omega,by omega,rfl,(putRow_self encE w blk off d hH).symm,rfl⟩
 case round=>
  obtain⟨i,jn,jz,dk,n,rfl,rfl,h1,h2,hk,hds,hwr,heq⟩:=hrel
  by_cases hlt:(i:Int)<jz
  · obtain⟨rfl,hjn⟩:=h1 hlt
    have hij:i<jn:=by omega
    have hHk:Holds encE wr blk off dk:=by rw[hwr];exact holds_putRow encE _ blk off d dk (holds_ahead encE w n blk off d hH) hds
    obtain⟨ci,fi⟩:=hHk i (by omega)
    obtain⟨cj,fj⟩:=hHk jn (by omega)
    have A:Aside (wr=putRow encE (Sort.ahead w n) blk off dk):=hwr
    clear hwr hHk hH h1 h2
    go_wp2_with fail
    go_region
    go_wp2
    go_roundg (jn-1-(i+1))
    case measure=>omega
    case rel=>
     rw[reverseLoop,if_pos hij] at heq
     exact⟨i+1,jn-1,(jn:Int)-1,swp dk i jn,n+1,by simp,rfl,fun h=>⟨by omega,by omega⟩,fun h=>by omega,Nat.le_refl _,by rw[size_swp];exact hds,
      swap_world encE (by omega) (by omega) A.out (by simp[encE,getElem!_pos,show jn<dk.size by omega]) rfl,heq⟩
  · have hnot:=h2 hlt
    go_wp2
    go_end0
    refine⟨rfl,n,?_⟩
    rw[reverseLoop,if_neg hnot] at heq
    rw[reverseRange,←heq]
theorem s_order2 (d:Array Int) (len:Nat) (hlen:d.size=len) (blk off cap a b sb so s:Nat) (w:World) (hH:Holds (Value.int .u32) w blk off d) (ha:a<d.size) (hb:b<d.size)
 (hS:Holds (Value.int  .i64) w sb so (one s)) (hs:s<2 ^ 62):
 Calls Tryz.prog 158 #[.slice (some ⟨blk,off,none⟩) len cap,.int .i64 a,.int .i64 b,.pointer (some ⟨sb,so,none⟩)] w fun e w'=>
  e = .returned (.tuple #[.int .i64 (order2 ltInt d a b s).1,.int .i64 (order2 ltInt d a b s).2.1])∧∃n,w'=putRow (Value.int  .i64) (Sort.ahead w n) sb so (one (order2 ltInt d a b s).2.2):=by
 subst hlen
 replace hs:s<4611686018427387904:=by omega
 have ca:=(hH a ha).1
 have cb:=(hH b hb).1
 obtain⟨cs,fs⟩:=one_cell hS
 have ea:d[a]! = d[a]:=getElem!_pos d a ha
 have eb:d[b]! = d[b]:=getElem!_pos d b hb
 go_enter Tryz.func158,Tryz.ntmps158
 go_wp2
 go_region_with (go_at_call 118;refine (s_cmp_Less _ _ _).mono ?_;rintro e w' ⟨rfl,rfl⟩)
 all_goals (try go_wp2)
 all_goals first
  | (have hlt:ltInt d[b] d[a]=true:=by assumption
     have e2:order2 ltInt d a b s=(b,a,s+1):=by simp[order2,ea,eb,hlt]
     go_ret2
     rw[e2]
     refine⟨rfl,1,?_⟩
     rw[putRow_ahead,←one_set hS (s+1)]
     simp[drew_eq_ahead])
  | (have hlt:ltInt d[b] d[a]=false:=by assumption
     have e2:order2 ltInt d a b s=(a,b,s):=by simp[order2,ea,eb,hlt]
     go_ret2
     rw[e2]
     refine⟨rfl,1,?_⟩
     rw[putRow_ahead,putRow_self _ _ _ _ _ hS]
     rfl)
set_option maxRecDepth 100000 in
theorem s_median (d:Array Int) (len:Nat) (hlen:d.size=len) (blk off cap a b c sb so s:Nat) (w:World) (hH:Holds (Value.int .u32) w blk off d) (ha:a<d.size) (hb:b<d.size) (hc:c<d.size) (hne:sb≠blk)
 (hS:Holds (Value.int  .i64) w sb so (one s)) (hs:s+3<2 ^ 62):
 Calls Tryz.prog 148 #[.slice (some ⟨blk,off,none⟩) len cap,.int .i64 a,.int .i64 b,.int .i64 c,.pointer (some ⟨sb,so,none⟩)] w fun e w'=>
  e = .returned (.int .i64 (median ltInt d a b c s).1)∧∃n,w'=putRow (Value.int  .i64) (Sort.ahead w n) sb so (one (median ltInt d a b c s).2):=by
 subst hlen
 have l1:=order2_lt d s ha hb
 have s1:=order2_swaps d a b s
 have l2:=order2_lt d (order2 ltInt d a b s).2.2 l1.2 hc
 have s2:=order2_swaps d (order2 ltInt d a b s).2.1 c (order2 ltInt d a b s).2.2
 go_enter Tryz.func148,Tryz.ntmps148
 go_wp2_with (go_at_call_of 158 (Value.int .i64 (b:Int));refine (s_order2 d _ rfl blk off cap a b sb so s w hH ha hb hS (by omega)).mono ?_;rintro e w' ⟨rfl,n1,rfl⟩)
 go_wp2_with (go_at_call_of 158 (Value.int .i64 (c:Int));refine (s_order2 d _ rfl blk off cap (order2 ltInt d a b s).2.1 c sb so (order2 ltInt d a b s).2.2 _ (holds_asideE hH hne) l1.2 hc (holds_one hS) (by omega)).mono ?_;rintro e w' ⟨rfl,n2,rfl⟩)
 go_wp2_with (go_at_call_of 158 (Value.int .i64 ((order2 ltInt d a b s).1:Int));refine (s_order2 d _ rfl blk off cap (order2 ltInt d a b s).1 (order2 ltInt d (order2 ltInt d a b s).2.1 c (order2 ltInt d a b s).2.2).1 sb so (order2 ltInt d (order2 ltInt d a b s).2.1 c (order2 ltInt d a b s).2.2).2.2 _
  (holds_asideE (holds_asideE hH hne) hne) l1.1 l2.1 (holds_one (holds_one hS)) (by omega)).mono ?_;rintro e w' ⟨rfl,n3,rfl⟩)
 go_ret
 refine⟨rfl,n1+(n2+n3),?_⟩
 rw[one_one,one_one]
 rfl
set_option maxRecDepth 100000 in
theorem s_medianAdjacent (d:Array Int) (len:Nat) (hlen:d.size=len) (blk off cap a sb so s:Nat) (w:World) (hH:Holds (Value.int .u32) w blk off d) (ha0:1≤a) (ha:a+1<d.size) (hsz:d.size<2 ^ 62) (hne:sb≠blk)
 (hS:Holds (Value.int  .i64) w sb so (one s)) (hs:s+3<2 ^ 62):
 Calls Tryz.prog 147 #[.slice (some ⟨blk,off,none⟩) len cap,.int .i64 a,.pointer (some ⟨sb,so,none⟩)] w fun e w'=>
  e = .returned (.int .i64 (medianAdjacent ltInt d a s).1)∧∃n,w'=putRow (Value.int  .i64) (Sort.ahead w n) sb so (one (medianAdjacent ltInt d a s).2):=by
 subst hlen
 replace hsz:d.size<4611686018427387904:=by omega
 go_enter Tryz.func147,Tryz.ntmps147
 go_wp2_with (go_at_call 148;rw[show ((a:Int)-1)=((a-1:Nat):Int) by omega,show ((a:Int)+1)=((a+1:Nat):Int) by omega];refine (s_median d _ rfl blk off cap (a-1) a (a+1) sb so s w hH (by omega) (by omega) ha hne hS hs).mono ?_;rintro e w' ⟨rfl,n1,rfl⟩)
 go_ret
 exact⟨rfl,n1,rfl⟩
set_option maxRecDepth 100000 in
theorem len8tab_size:(Lib.len8tab.size:Int)=256:=by
 have:Lib.len8tab.size=256:=by decide
 omega
theorem wrap_add (k a b:Nat) (hk:k≤56) (ha:a≤8) (hb:b=k+a):RowKit.wrap64 ((k:Int)+RowKit.wrap64 (a:Int))=(b:Int):=by
 unfold RowKit.wrap64
 omega
theorem wrap_wrap (a:Nat) (ha:a≤8):RowKit.wrap64 (RowKit.wrap64 (a:Int))=(a:Int):=by
 unfold RowKit.wrap64
 omega
theorem len8_get (y:Int) (h:y.toNat<Lib.len8tab.size):((Lib.len8tab[y.toNat]'h).toNat:Int)=Lib.len8 y:=by
 unfold Lib.len8
 rw[getElem?_pos Lib.len8tab y.toNat h]
 rfl
set_option maxRecDepth 1000000 in
theorem s_bits_Len64 (x:Int) (w:World) (h0:0≤x) (h1:x≤18446744073709551615):
 Calls Tryz.prog 122 #[.int .u64 x] w fun e w'=>e = .returned (.int .i64 (Lib.bitLen x.toNat))∧w'=w:=by
 go_enter Tryz.func122,Tryz.ntmps122
 go_wp2
 all_goals first
  | (go_ret;refine⟨congrArg Ending.returned (congrArg (Value.int IntKind.i64) ?_),rfl⟩;go_light)
  | (exfalso
     go_light
     have hs:=len8tab_size
     omega)
 all_goals first
  | (rw[len8_get (x/4294967296/65536/256) _,Lib.len8_of (x/4294967296/65536/256) (by omega) (by omega)]
     have e:(x/4294967296/65536/256).toNat=x.toNat/72057594037927936:=by omega
     have l:=Lib.bitLen_le8' (x/4294967296/65536/256) (by omega) (by omega)
     have s:=Lib.bitLen_shift56 x.toNat (by omega) (by omega)
     rw[e] at l⊢
     exact wrap_add 56 _ _ (by decide) l s)
  | (rw[len8_get (x/4294967296/65536) _,Lib.len8_of (x/4294967296/65536) (by omega) (by omega)]
     have e:(x/4294967296/65536).toNat=x.toNat/281474976710656:=by omega
     have l:=Lib.bitLen_le8' (x/4294967296/65536) (by omega) (by omega)
     have s:=Lib.bitLen_shift48 x.toNat (by omega) (by omega)
     rw[e] at l⊢
     exact wrap_add 48 _ _ (by decide) l s)
  | (rw[len8_get (x/4294967296/256) _,Lib.len8_of (x/4294967296/256) (by omega) (by omega)]
     have e:(x/4294967296/256).toNat=x.toNat/1099511627776:=by omega
     have l:=Lib.bitLen_le8' (x/4294967296/256) (by omega) (by omega)
     have s:=Lib.bitLen_shift40 x.toNat (by omega) (by omega)
     rw[e] at l⊢
     exact wrap_add 40 _ _ (by decide) l s)
  | (rw[len8_get (x/4294967296) _,Lib.len8_of (x/4294967296) (by omega) (by omega)]
     have e:(x/4294967296).toNat=x.toNat/4294967296:=by omega
     have l:=Lib.bitLen_le8' (x/4294967296) (by omega) (by omega)
     have s:=Lib.bitLen_shift32 x.toNat (by omega) (by omega)
     rw[e] at l⊢
     exact wrap_add 32 _ _ (by decide) l s)
  | (rw[len8_get (x/65536/256) _,Lib.len8_of (x/65536/256) (by omega) (by omega)]
     have e:(x/65536/256).toNat=x.toNat/16777216:=by omega
     have l:=Lib.bitLen_le8' (x/65536/256) (by omega) (by omega)
     have s:=Lib.bitLen_shift24 x.toNat (by omega) (by omega)
     rw[e] at l⊢
     exact wrap_add 24 _ _ (by decide) l s)
  | (rw[len8_get (x/65536) _,Lib.len8_of (x/65536) (by omega) (by omega)]
     have e:(x/65536).toNat=x.toNat/65536:=by omega
     have l:=Lib.bitLen_le8' (x/65536) (by omega) (by omega)
     have s:=Lib.bitLen_shift16 x.toNat (by omega) (by omega)
     rw[e] at l⊢
     exact wrap_add 16 _ _ (by decide) l s)
  | (rw[len8_get (x/256) _,Lib.len8_of (x/256) (by omega) (by omega)]
     have e:(x/256).toNat=x.toNat/256:=by omega
     have l:=Lib.bitLen_le8' (x/256) (by omega) (by omega)
     have s:=Lib.bitLen_shift8 x.toNat (by omega) (by omega)
     rw[e] at l⊢
     exact wrap_add 8 _ _ (by decide) l s)
  | (rw[len8_get (x) _,Lib.len8_of (x) (by omega) (by omega)]
     have e:(x).toNat=x.toNat:=by omega
     have l:=Lib.bitLen_le8' (x) (by omega) (by omega)
     rw[e] at l⊢
     first | exact wrap_wrap _ l | exact wrap_add 0 _ _ (by decide) l (by omega) | exact wrap_one _ l)
set_option maxRecDepth 1000000 in
theorem s_bits_Len (x:Int) (w:World) (h0:0≤x) (h1:x≤18446744073709551615):
 Calls Tryz.prog 101 #[.int .u64 x] w fun e w'=>e = .returned (.int .i64 (Lib.bitLen x.toNat))∧w'=w:=by
 go_enter Tryz.func101,Tryz.ntmps101
 go_wp2_with (go_at_call 122;refine (s_bits_Len64 x _ h0 h1).mono ?_;rintro e w' ⟨rfl,rfl⟩)
 go_ret
 exact⟨rfl,rfl⟩
set_option maxRecDepth 1000000 in
theorem s_xorshift_Next (rb ro X:Nat) (hX:X<18446744073709551616) (w:World) (hc:w.cell? ⟨rb,ro,none⟩=some (.int .u64 X)) (hf:w.frozen? ⟨rb,ro,none⟩=false):
 Calls Tryz.prog 146 #[.pointer (some ⟨rb,ro,none⟩)] w fun e w'=>e = .returned (.int .u64 (xorNextN X:Nat))∧w'=(w.setCell ⟨rb,ro,none⟩ (.int .u64 (xorNextN X:Nat))).drewN 3:=by
 obtain⟨A,hA⟩:∃A:Nat,A=X ^^^ (X*8192%18446744073709551616):=⟨_,rfl⟩
 obtain⟨B,hB⟩:∃B:Nat,B=A ^^^ (A/128):=⟨_,rfl⟩
 obtain⟨C,hC⟩:∃C:Nat,C=B ^^^ (B*131072%18446744073709551616):=⟨_,rfl⟩
 have lA:A<18446744073709551616:=by rw[hA];exact Nat.xor_lt_two_pow (n:=64) (by omega) (by omega)
 have lB:B<18446744073709551616:=by rw[hB];exact Nat.xor_lt_two_pow (n:=64) (by omega) (by omega)
 have e1:bits .xor .u64 (X:Int) (IntKind.u64.wrap ((X:Int)*8192))=(A:Int):=by
  rw[IntKind.wrap_u64,show ((X:Int)*8192%18446744073709551616)=((X*8192%18446744073709551616:Nat):Int) by omega,bits_xor_u64_nat _ _ hX (by omega),hA]
 have e2:bits .xor .u64 (A:Int) ((A:Int)/128)=(B:Int):=by
  rw[show ((A:Int)/128)=((A/128:Nat):Int) by omega,bits_xor_u64_nat _ _ lA (by omega),hB]
 have e3:bits .xor .u64 (B:Int) (IntKind.u64.wrap ((B:Int)*131072))=(C:Int):=by
  rw[IntKind.wrap_u64,show ((B:Int)*131072%18446744073709551616)=((B*131072%18446744073709551616:Nat):Int) by omega,bits_xor_u64_nat _ _ lB (by omega),hC]
 have hv:xorNextN X=C:=by unfold xorNextN;simp only[];rw[←hA,←hB,←hC]
 rw[hv]
 clear hA hB hC hv
 have hss:∀v v',(w.setCell ⟨rb,ro,none⟩ v).setCell ⟨rb,ro,none⟩ v'=w.setCell ⟨rb,ro,none⟩ v':=setCell_setCell w rb ro
 go_enter Tryz.func146,Tryz.ntmps146
 go_wp2
 go_region
 all_goals go_wp2
 all_goals go_region
 all_goals go_wp2
 all_goals go_region
 all_goals go_wp2
 go_ret
 exact⟨rfl,rfl⟩
set_option maxRecDepth 1000000 in
theorem s_nextPowerOfTwo (n:Nat) (hn:n<4611686018427387904) (w:World):
 Calls Tryz.prog 145 #[.int .i64 n] w fun e w'=>e = .returned (.int .u64 ((1 <<< bitsLen n:Nat):Int))∧w'=w:=by
 have hLen:∀w,Calls Tryz.prog 101 #[.int .u64 (n:Int)] w fun e w'=>e = .returned (.int .i64 (bitsLen n:Nat))∧w'=w:=fun w=>by
  have h:=s_bits_Len (n:Int) w (by omega) (by omega)
  rwa [Int.toNat_natCast,bitLen_eq _ (by omega)] at h
 have hk:bitsLen n≤62:=(bitsLen_le_iff n 62).2 (by omega)
 have hp:=wrap_two_pow (bitsLen n) hk
 go_enter Tryz.func145,Tryz.ntmps145
 go_wp2_with (first | (go_at_call 101;refine (hLen _).mono ?_;rintro e w' ⟨rfl,rfl⟩))
 go_ret
 exact⟨rfl,rfl⟩
set_option maxRecDepth 1000000 in
theorem s_breakPatterns_go (blk off cap a L:Nat) (d:Array Int) (w:World) (hH:Holds (Value.int .u32) w blk off d) (hblk:blk<w.heap.size) (hb:a+L≤d.size) (hsz:d.size<4611686018427387904) (h8:8≤L):
 Calls Tryz.prog 114 #[.slice (some ⟨blk,off,none⟩) d.size cap,.int .i64 a,.int .i64 ((a+L:Nat):Int)] w fun e w'=>
  e = .returned (.tuple #[])∧∃n os,w'=grow (putRow (Value.int .u32) (Sort.ahead w n) blk off (breakPatterns d a (a+L))) os:=by
 rw[breakPatterns_eq d a L h8]
 obtain⟨M,hM⟩:∃M:Nat,M=1 <<< bitsLen L:=⟨_,rfl⟩
 have hM1:1≤M:=by rw[hM,Nat.one_shiftLeft];exact Nat.two_pow_pos _
 have hM2:M≤2*L:=by rw[hM,Nat.one_shiftLeft];exact two_pow_bitsLen_le (by omega)
 have hNP:∀w,Calls Tryz.prog 145 #[.int .i64 (L:Int)] w fun e w'=>e = .returned (.int .u64 (M:Int))∧w'=w:=by rw[hM];exact fun w=>s_nextPowerOfTwo L (by omega) w
 rw[←hM]
 clear hM
 have HH:Hid (Holds (Value.int .u32) w blk off d):=hH
 have HST:Hid (w.alloc (Obj.cells #[.int .u64 (L:Int)] 248)=grow (putRow (Value.int .u32) (Sort.ahead w 0) blk off d) #[Obj.cells #[.int .u64 ((UInt64.ofNat L).toNat:Int)] 248]):=by
  show _=_
  rw[show Sort.ahead w 0=w from rfl,putRow_self _ _ _ _ _ hH,alloc_eq_grow,show (UInt64.ofNat L).toNat=L from by simp;omega]
 clear hH
 go_enter Tryz.func114,Tryz.ntmps114
 go_wp2_with (first | (go_at_call 145;rw[show ((a:Int)+(L:Int)-(a:Int))=(L:Int) by omega];refine ((hNP _)).mono ?_;rintro e w' ⟨rfl,rfl⟩))
 go_loopw [9] (fun vi wr=>∃(t n:Nat) (r:UInt64) (dk:Array Int),vi = .int .i64 ((a+L/4*2-1+t:Nat):Int)∧t≤3∧dk.size=d.size∧
  wr=grow (putRow (Value.int .u32) (Sort.ahead w n) blk off dk) #[Obj.cells #[.int .u64 (r.toNat:Int)] 248]∧
  bpRest a L M (a+L/4*2-1) (3-t) t (r,dk)=bpRest a L M (a+L/4*2-1) 3 0 (UInt64.ofNat L,d)) (fun vi _=>a+L/4*2+3-(intOf vi).toNat)
 case atStart=>exact⟨0,0,UInt64.ofNat L,d,by congr 1;omega,by omega,rfl,HST.out,rfl⟩
 case round =>
  obtain⟨t,n,r,dk,rfl,ht,hsk,hw,hR⟩:=hrel
  obtain⟨R,hRr⟩:∃R:Nat,R=r.toNat:=⟨_,rfl⟩
  have lR:R<18446744073709551616:=by rw[hRr];exact r.toNat_lt
  obtain⟨R',hR'⟩:∃R':Nat,R'=xorNextN R:=⟨_,rfl⟩
  have lR':R'<18446744073709551616:=by rw[hR'];exact xorNextN_lt R lR
  obtain⟨O,hO⟩:∃O:Nat,O=R' &&& (M-1):=⟨_,rfl⟩
  have lO:O≤M-1:=by rw[hO];exact Nat.and_le_right
  have eAnd:bits .and .u64 (R':Int) ((M:Int)-1)=(O:Int):=by
   rw[show ((M:Int)-1)=((M-1:Nat):Int) by omega,bits_and_u64_nat _ _ lR' (by omega),hO]
  obtain⟨G,hG⟩:∃G:Nat→Int,∀x,G x=dk[x]!:=⟨fun x=>dk[x]!,fun _=>rfl⟩
  have hz:(putRow (Value.int .u32) (Sort.ahead w n) blk off dk).heap.size=w.heap.size:=by simp
  have hcw:∀x,x<d.size→wr.cell? ⟨blk,off+x,none⟩=some (.int .u32 (G x)):=fun x hx=>by
   rw[hw,cell?_grow _ _ _ (by rw[hz];exact hblk),hG];exact cell?_putRow _ _ _ _ d dk (holds_ahead _ _ _ _ _ _ HH.out) hsk x (by omega)
  have hfw:∀x,x<d.size→wr.frozen? ⟨blk,off+x,none⟩=false:=fun x hx=>by
   rw[hw,frozen?_grow _ _ _ (by rw[hz];exact hblk),frozen?_putRow];exact ((holds_ahead _ _ n _ _ _ HH.out) x hx).2
  have hcB:wr.cell? ⟨w.heap.size,0,none⟩=some (.int .u64 (R:Int)):=by rw[hw,hRr,←hz];exact grow_one_cell _ _ _
  have hfB:wr.frozen? ⟨w.heap.size,0,none⟩=false:=by rw[hw,←hz];exact grow_one_frozen _ _ _
  have hNext:Calls Tryz.prog 146 #[.pointer (some ⟨w.heap.size,0,none⟩)] wr fun e w'=>e = .returned (.int .u64 (R':Int))∧w'=(wr.setCell ⟨w.heap.size,0,none⟩ (.int .u64 (R':Int))).drewN 3:=by
   rw[hR'];exact s_xorshift_Next _ _ R lR wr hcB hfB
  have HW:Hid (wr=grow (putRow (Value.int .u32) (Sort.ahead w n) blk off dk) #[Obj.cells #[.int .u64 (r.toNat:Int)] 248]):=hw
  have HG:Hid (∀x,G x=dk[x]!):=hG
  have HR:Hid (bpRest a L M (a+L/4*2-1) (3-t) t (r,dk)=bpRest a L M (a+L/4*2-1) 3 0 (UInt64.ofNat L,d)):=hR
  have HN:Hid (R'=(xorNext r).toNat∧O=(xorNext r).toNat &&& (M-1)):=by
   have e:R'=(xorNext r).toNat:=by rw[hR',hRr,xorNext_toNat]
   exact⟨e,by rw[hO,e]⟩
  clear hw hG hR hRr hR' hO
  go_wp2_with (first | (go_at_call 146;refine (hNext).mono ?_;rintro e w' ⟨rfl,rfl⟩))
  all_goals first
   | (have hLO:L≤O:=by omega
      by_cases hEq:a+L/4*2-1+t=a+(O-L)
      all_goals
       go_region
       all_goals go_wp2
       go_roundw
       case rel=>
        refine⟨t+1,n+4,xorNext r,swp dk (a+L/4*2-1+t) (a+(O-L)),by first | rfl | (congr 1 <;> omega),by omega,by rw[size_swp];exact hsk,?_,?_⟩
        · (try rw[hEq])
          rw[HW.out,HN.out.1]
          simp only[HG.out]
          exact step_world (Value.int .u32) w n 4 blk off dk _ _ hblk (by omega) (by omega) _ _ _
        · rw[←HR.out,bp_step a L M _ t r dk (O-L) (by omega) (by rw[←HN.out.2,if_pos (by omega)])]
       case measure=>simp[intOf];omega)
   | (have hLO:¬L≤O:=by omega
      by_cases hEq:a+L/4*2-1+t=a+O
      all_goals
       go_region
       all_goals go_wp2
       go_roundw
       case rel=>
        refine⟨t+1,n+4,xorNext r,swp dk (a+L/4*2-1+t) (a+O),by first | rfl | (congr 1 <;> omega),by omega,by rw[size_swp];exact hsk,?_,?_⟩
        · (try rw[hEq])
          rw[HW.out,HN.out.1]
          simp only[HG.out]
          exact step_world (Value.int .u32) w n 4 blk off dk _ _ hblk (by omega) (by omega) _ _ _
        · rw[←HR.out,bp_step a L M _ t r dk O (by omega) (by rw[←HN.out.2,if_neg (by omega)])]
       case measure=>simp[intOf];omega)
   | (obtain rfl:t=3:=by omega
      go_end0
      exact⟨rfl,n,_,by rw[←HR.out,HW.out];rfl⟩)
set_option maxRecDepth 1000000 in
theorem s_breakPatterns (blk off cap a b:Nat) (d:Array Int) (w:World) (hH:Holds (Value.int .u32) w blk off d) (hblk:blk<w.heap.size) (hab:a≤b) (hb:b≤d.size) (hsz:d.size<4611686018427387904):
 Calls Tryz.prog 114 #[.slice (some ⟨blk,off,none⟩) d.size cap,.int .i64 a,.int .i64 b] w fun e w'=>
  e = .returned (.tuple #[])∧∃n os,w'=grow (putRow (Value.int .u32) (Sort.ahead w n) blk off (breakPatterns d a b)) os:=by
 obtain⟨L,rfl⟩:∃L,b=a+L:=⟨b-a,by omega⟩
 by_cases h8:8≤L
 · exact s_breakPatterns_go blk off cap a L d w hH hblk hb hsz h8
 · have hv:breakPatterns d a (a+L)=d:=by unfold breakPatterns;simp only[Nat.add_sub_cancel_left];rw[if_neg h8]
   rw[hv]
   have HST:Hid (w=grow (putRow (Value.int .u32) (Sort.ahead w 0) blk off d) #[]):=by
    show _=_
    rw[grow_empty,show Sort.ahead w 0=w from rfl,putRow_self _ _ _ _ _ hH]
   clear hH
   go_enter Tryz.func114,Tryz.ntmps114
   go_wp2
   go_end0
   exact⟨rfl,0,#[],HST.out⟩
set_option maxRecDepth 1000000 in
theorem s_pivot_world (blk off cap:Nat) (d:Array Int) (w:World) (hH:Holds (Value.int .u32) w blk off d) (hblk:blk<w.heap.size) (hsz:d.size<4611686018427387904):
 ∃ Wc:Nat→Nat→World,
   w.alloc (.cells #[.int .i64 0] 3)=Wc 0 0∧
   (∀N S:Nat,(Wc N S).cell? ⟨w.heap.size,0,none⟩=some (.int .i64 (S:Int)))∧
   (∀N S:Nat,∃os,Wc N S=grow (Sort.ahead w N) os)∧
   (∀x s N:Nat,1≤x→x+1<d.size→s+3<4611686018427387904→Calls Tryz.prog 147 #[.slice (some ⟨blk,off,none⟩) d.size cap,.int .i64 (x:Int),.pointer (some ⟨w.heap.size,0,none⟩)] (Wc N s) fun e w'=>
     e = .returned (.int .i64 ((medianAdjacent ltInt d x s).1:Int))∧∃N',w'=Wc N' (medianAdjacent ltInt d x s).2)∧
   (∀x y z s N:Nat,x<d.size→y<d.size→z<d.size→s+3<4611686018427387904→Calls Tryz.prog 148 #[.slice (some ⟨blk,off,none⟩) d.size cap,.int .i64 (x:Int),.int .i64 (y:Int),.int .i64 (z:Int),.pointer (some ⟨w.heap.size,0,none⟩)] (Wc N s) fun e w'=>
     e = .returned (.int .i64 ((median ltInt d x y z s).1:Int))∧∃N',w'=Wc N' (median ltInt d x y z s).2):=by
 have hne:w.heap.size≠blk:=by omega
 have hH0:Holds (Value.int .u32) (w.alloc (.cells #[.int .i64 0] 3)) blk off d:=by rw[alloc_eq_grow];exact holds_grow _ _ _ _ _ _ hblk hH
 have hS0:Holds (Value.int  .i64) (w.alloc (.cells #[.int .i64 0] 3)) w.heap.size 0 (one 0):=fun j hj=>by
  obtain rfl:j=0:=by simpa using hj
  simp
 refine⟨fun N S=>putRow (Value.int  .i64) (Sort.ahead (w.alloc (.cells #[.int .i64 0] 3)) N) w.heap.size 0 (one S),(putRow_self _ _ _ _ _ hS0).symm,fun N S=>(one_cell (holds_one (n:=N) (t:=S) hS0)).1,fun N S=>counter_grow w N S,?_,?_⟩
 · intro x s N h1 h2 hs
   refine (s_medianAdjacent d _ rfl blk off cap x w.heap.size 0 s _ (holds_asideE hH0 hne) h1 h2 (by omega) hne (holds_one hS0) (by omega)).mono ?_
   rintro e w' ⟨he,n,hw⟩
   exact⟨he,N+n,by rw[hw,one_one]⟩
 · intro x y z s N h1 h2 h3 hs
   refine (s_median d _ rfl blk off cap x y z w.heap.size 0 s _ (holds_asideE hH0 hne) h1 h2 h3 hne (holds_one hS0) (by omega)).mono ?_
   rintro e w' ⟨he,n,hw⟩
   exact⟨he,N+n,by rw[hw,one_one]⟩
set_option maxRecDepth 1000000 in
theorem s_choosePivot (blk off cap a b:Nat) (d:Array Int) (w:World) (hH:Holds (Value.int .u32) w blk off d) (hblk:blk<w.heap.size) (hab:a<b) (hb:b≤d.size) (hsz:d.size<4611686018427387904):
 Calls Tryz.prog 115 #[.slice (some ⟨blk,off,none⟩) d.size cap,.int .i64 a,.int .i64 b] w fun e w'=>
  e = .returned (.tuple #[.int .i64 (choosePivot ltInt d a b).1,.int .i64 (hintCode (choosePivot ltInt d a b).2)])∧∃n os,w'=grow (Sort.ahead w n) os:=by
 obtain⟨Wc,hW0,cS,hG,MA,MD⟩:=s_pivot_world blk off cap d w hH hblk hsz
 clear hH
 rw[choosePivot_eq]
 obtain⟨I,hI⟩:∃I:Nat,I=a+(b-a)/4*1:=⟨_,rfl⟩
 obtain⟨J,hJ⟩:∃J:Nat,J=a+(b-a)/4*2:=⟨_,rfl⟩
 obtain⟨K,hK⟩:∃K:Nat,K=a+(b-a)/4*3:=⟨_,rfl⟩
 have eI:((a:Int)+((b:Int)-(a:Int))/4)=(I:Int):=by omega
 have eJ:((a:Int)+((b:Int)-(a:Int))/4*2)=(J:Int):=by omega
 have eK:((a:Int)+((b:Int)-(a:Int))/4*3)=(K:Int):=by omega
 by_cases h8:b-a≥8
 · by_cases h50:b-a≥50
   ·
    obtain⟨i1,s1,h1⟩:∃i1 s1,medianAdjacent ltInt d I 0=(i1,s1):=⟨_,_,rfl⟩
    obtain⟨j1,s2,h2⟩:∃j1 s2,medianAdjacent ltInt d J s1=(j1,s2):=⟨_,_,rfl⟩
    obtain⟨k1,s3,h3⟩:∃k1 s3,medianAdjacent ltInt d K s2=(k1,s3):=⟨_,_,rfl⟩
    obtain⟨p,s,h4⟩:∃p s,median ltInt d i1 j1 k1 s3=(p,s):=⟨_,_,rfl⟩
    have hraw:rawPivot ltInt d a b=(p,s):=by simp only[rawPivot,if_pos h8,if_pos h50,←hI,←hJ,←hK,h1,h2,h3,h4]
    have m1:=medianAdjacent_mem ltInt d I 0;rw[h1] at m1
    have m2:=medianAdjacent_mem ltInt d J s1;rw[h2] at m2
    have m3:=medianAdjacent_mem ltInt d K s2;rw[h3] at m3
    have n1:=medianAdjacent_count ltInt d I 0;rw[h1] at n1
    have n2:=medianAdjacent_count ltInt d J s1;rw[h2] at n2
    have n3:=medianAdjacent_count ltInt d K s2;rw[h3] at n3
    simp only[] at m1 m2 m3 n1 n2 n3
    have c1:Calls Tryz.prog 147 #[.slice (some ⟨blk,off,none⟩) d.size cap,.int .i64 (I:Int),.pointer (some ⟨w.heap.size,0,none⟩)] (Wc 0 0) fun e w'=>e = .returned (.int .i64 (i1:Int))∧∃N',w'=Wc N' s1:=by
     have h:=MA I 0 0 (by omega) (by omega) (by omega);rw[h1] at h;exact h
    have c2:∀N,Calls Tryz.prog 147 #[.slice (some ⟨blk,off,none⟩) d.size cap,.int .i64 (J:Int),.pointer (some ⟨w.heap.size,0,none⟩)] (Wc N s1) fun e w'=>e = .returned (.int .i64 (j1:Int))∧∃N',w'=Wc N' s2:=fun N=>by
     have h:=MA J s1 N (by omega) (by omega) (by omega);rw[h2] at h;exact h
    have c3:∀N,Calls Tryz.prog 147 #[.slice (some ⟨blk,off,none⟩) d.size cap,.int .i64 (K:Int),.pointer (some ⟨w.heap.size,0,none⟩)] (Wc N s2) fun e w'=>e = .returned (.int .i64 (k1:Int))∧∃N',w'=Wc N' s3:=fun N=>by
     have h:=MA K s2 N (by omega) (by omega) (by omega);rw[h3] at h;exact h
    have c4:∀N,Calls Tryz.prog 148 #[.slice (some ⟨blk,off,none⟩) d.size cap,.int .i64 (i1:Int),.int .i64 (j1:Int),.int .i64 (k1:Int),.pointer (some ⟨w.heap.size,0,none⟩)] (Wc N s3) fun e w'=>e = .returned (.int .i64 (p:Int))∧∃N',w'=Wc N' s:=fun N=>by
     have h:=MD i1 j1 k1 s3 N (by omega) (by omega) (by omega) (by omega);rw[h4] at h;exact h
    rw[hraw]
    obtain⟨Hc,hHc⟩:∃Hc:Int,Hc=hintCode (hintOf s):=⟨_,rfl⟩
    have hh0:s=0→Hc=1:=fun h=>by rw[hHc,h];rfl
    have hh12:s=12→Hc=2:=fun h=>by rw[hHc,h];rfl
    have hhx:s≠0→s≠12→Hc=0:=fun h1 h2=>by rw[hHc];unfold hintOf;rw[if_neg h1,if_neg h2];rfl
    show Calls Tryz.prog 115 _ w fun e w'=>e = .returned (.tuple #[.int .i64 (p:Int),.int .i64 (hintCode (hintOf s))])∧∃n os,w'=grow (Sort.ahead w n) os
    rw[←hHc]
    clear hHc hraw
    clear h1 h2 h3 h4 MA MD hI hJ hK m1 m2 m3
    go_enter Tryz.func115,Tryz.ntmps115
    go_wp2_with (first
     | (go_at_call_has 147 (Value.int .i64 (I:Int));refine (c1).mono ?_;rintro e w' ⟨rfl,N1,rfl⟩)
     | (go_at_call_has 147 (Value.int .i64 (J:Int));refine ((c2 _)).mono ?_;rintro e w' ⟨rfl,N2,rfl⟩)
     | (go_at_call_has 147 (Value.int .i64 (K:Int));refine ((c3 _)).mono ?_;rintro e w' ⟨rfl,N3,rfl⟩)
     | (go_at_call 148;refine ((c4 _)).mono ?_;rintro e w' ⟨rfl,N4,rfl⟩))
    all_goals
     go_ret2
     refine⟨?_,_,hG _ _⟩
     first
      | (have e0:(s:Int)=0:=of_beq_int (by assumption)
         rw[hh0 (by omega)];rfl)
      | (have e1:(s:Int)=12:=of_beq_int (by assumption)
         rw[hh12 (by omega)];rfl)
      | (have e0:(s:Int)≠0:=of_bne_int (by assumption)
         have e1:(s:Int)≠12:=of_bne_int (by assumption)
         rw[hhx (by omega) (by omega)];rfl)
      | (rw[hh0 (by omega)];rfl)
   ·
    obtain⟨p,s,h4⟩:∃p s,median ltInt d I J K 0=(p,s):=⟨_,_,rfl⟩
    have hraw:rawPivot ltInt d a b=(p,s):=by simp only[rawPivot,if_pos h8,if_neg h50,←hI,←hJ,←hK,h4]
    have c4:Calls Tryz.prog 148 #[.slice (some ⟨blk,off,none⟩) d.size cap,.int .i64 (I:Int),.int .i64 (J:Int),.int .i64 (K:Int),.pointer (some ⟨w.heap.size,0,none⟩)] (Wc 0 0) fun e w'=>e = .returned (.int .i64 (p:Int))∧∃N',w'=Wc N' s:=by
     have h:=MD I J K 0 0 (by omega) (by omega) (by omega) (by omega);rw[h4] at h;exact h
    rw[hraw]
    obtain⟨Hc,hHc⟩:∃Hc:Int,Hc=hintCode (hintOf s):=⟨_,rfl⟩
    have hh0:s=0→Hc=1:=fun h=>by rw[hHc,h];rfl
    have hh12:s=12→Hc=2:=fun h=>by rw[hHc,h];rfl
    have hhx:s≠0→s≠12→Hc=0:=fun h1 h2=>by rw[hHc];unfold hintOf;rw[if_neg h1,if_neg h2];rfl
    show Calls Tryz.prog 115 _ w fun e w'=>e = .returned (.tuple #[.int .i64 (p:Int),.int .i64 (hintCode (hintOf s))])∧∃n os,w'=grow (Sort.ahead w n) os
    rw[←hHc]
    clear hHc hraw
    clear h4 MA MD hI hJ hK
    go_enter Tryz.func115,Tryz.ntmps115
    go_wp2_with (first | (go_at_call 148;refine (c4).mono ?_;rintro e w' ⟨rfl,N4,rfl⟩))
    all_goals
     go_ret2
     refine⟨?_,_,hG _ _⟩
     first
      | (have e0:(s:Int)=0:=of_beq_int (by assumption)
         rw[hh0 (by omega)];rfl)
      | (have e1:(s:Int)=12:=of_beq_int (by assumption)
         rw[hh12 (by omega)];rfl)
      | (have e0:(s:Int)≠0:=of_bne_int (by assumption)
         have e1:(s:Int)≠12:=of_bne_int (by assumption)
         rw[hhx (by omega) (by omega)];rfl)
      | (rw[hh0 (by omega)];rfl)
 ·
  obtain⟨p,hp⟩:∃p:Nat,p=J:=⟨_,rfl⟩
  obtain⟨s,hs⟩:∃s:Nat,s=0:=⟨_,rfl⟩
  have hraw:rawPivot ltInt d a b=(p,s):=by simp only[rawPivot,if_neg h8,←hJ,hp,hs]
  rw[hraw]
  obtain⟨Hc,hHc⟩:∃Hc:Int,Hc=hintCode (hintOf s):=⟨_,rfl⟩
  have hh0:s=0→Hc=1:=fun h=>by rw[hHc,h];rfl
  have hh12:s=12→Hc=2:=fun h=>by rw[hHc,h];rfl
  have hhx:s≠0→s≠12→Hc=0:=fun h1 h2=>by rw[hHc];unfold hintOf;rw[if_neg h1,if_neg h2];rfl
  show Calls Tryz.prog 115 _ w fun e w'=>e = .returned (.tuple #[.int .i64 (p:Int),.int .i64 (hintCode (hintOf s))])∧∃n os,w'=grow (Sort.ahead w n) os
  rw[←hHc]
  clear hHc hraw
  subst hp
  clear MA MD hI hJ hK
  have hW0':w.alloc (.cells #[.int .i64 0] 3)=Wc 0 s:=by rw[hs];exact hW0
  clear hW0
  go_enter Tryz.func115,Tryz.ntmps115
  go_wp2
  all_goals
   go_ret2
   refine⟨?_,_,hG _ _⟩
   first
    | (have e0:(s:Int)=0:=of_beq_int (by assumption)
       rw[hh0 (by omega)];rfl)
    | (have e1:(s:Int)=12:=of_beq_int (by assumption)
       rw[hh12 (by omega)];rfl)
    | (have e0:(s:Int)≠0:=of_bne_int (by assumption)
       have e1:(s:Int)≠12:=of_bne_int (by assumption)
       rw[hhx (by omega) (by omega)];rfl)
    | (rw[hh0 (by omega)];rfl)
end Go.Proofs.YtlbjdbaeffacgaaGreat.U32
