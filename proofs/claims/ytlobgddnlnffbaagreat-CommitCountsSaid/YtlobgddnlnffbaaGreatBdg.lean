/-
  Parts of the proof, joined.
-/
import Derived.Test.YtlobgddnlnffbaaGreatBdf
import Derived.Test.YtlobgddnlnffbaaGreatBdc
import Derived.Test.YtlobgddnlnffbaaGreatBde
import Derived.ArgAppend
namespace Go.Proofs.YtlobgddnlnffbaaGreat
set_option maxHeartbeats 4000000
open Go.RowKit
set_option linter.unusedVariables false
set_option maxRecDepth 100000 in
theorem first_bad (A:Option Addr) (n c:Nat) (w:World) (hn:n≠12):
 Calls Tryz.prog 184 #[.slice A n c] w fun e w'=>e = .returned (.tuple #[.agg (bts z16),.int .i64 2])∧Below w.heap.size w w':=by
 have h1:((n:Int) != 12)=true:=by simp;omega
 have hz:z16.length=16:=rfl
 have B1:Hid (Bk (w.alloc (.cells (bts z16) 263)) w.heap.size 263 z16):=Lib.hid (Bk.newAt _ z16 rfl)
 have B2:Hid (Below w.heap.size w (w.alloc (.cells (bts z16) 263))):=Lib.hid ((Below.refl _ _).alloc (Nat.le_refl _) _)
 go_enter Tryz.func184,Tryz.ntmps184
 go_wp2_with (refine wpList_storeN (l:=z16) (o:=⟨none,.store _ (.tmp 2) (.tmp 8),_,_,_,_⟩) rfl 263 (.tmp 2) (.tmp 8) rfl w.heap.size rfl z16 rfl (t:=263) ?_ sz16 rfl ?_
              · exact B1.out
              intro w2 hw2
              have C1:Hid (Bk w2 w.heap.size 263 z16):=Lib.hid (by rw[hw2];exact B1.out.row _)
              have C2:Hid (Below w.heap.size w w2):=Lib.hid (by rw[hw2];exact Below.row B2.out (Nat.le_refl _) _)
              clear hw2)
 refine bodyPost_ret (results_bts2 Tryz.results184 _ _ _ rfl C1.out Tryz.underlying263 sz16) rfl ?_
 exact⟨rfl,C2.out⟩
set_option maxRecDepth 100000 in
theorem crypt_key (kA nA tA:Option Addr) (kn kc nn nc tn tc:Nat) (w:World) (h1:kn≠16) (h2:kn≠32):
 Calls Tryz.prog 169 #[.slice kA kn kc,.slice nA nn nc,.slice tA tn tc] w (OutB w [] 2):=by
 have hn:=new_bad kA kn kc h1 h2 w
 go_enter Tryz.func169,Tryz.ntmps169
 go_wp2_with fail
 refine hn.mono ?_
 rintro e w' ⟨rfl,rfl⟩
 go_wp2_with fail
 go_ret2
 exact OutB.refused 2 (Below.refl _ _)
set_option maxRecDepth 100000 in
theorem crypt_nonce (kA nA tA:Option Addr) (kn kc nn nc tn tc:Nat) (key:List Nat) (w:World) (hK:KeyOk key) (ik:IsB w kA kn kc key) (hn:nn≠12):
 Calls Tryz.prog 169 #[.slice kA kn kc,.slice nA nn nc,.slice tA tn tc] w (OutB w [] 2):=by
 have lk:=ik.len
 have hnew:=new_any (key.length/4) kn key kA kc w hK.four (by rw[←lk];exact hK.len) ik
 have HN:=Lib.hid hnew
 clear hnew ik hK lk
 go_enter Tryz.func169,Tryz.ntmps169
 go_wp2_with fail
 refine HN.out.mono ?_
 rintro e w1 ⟨b,g,rfl,hbg,hwb,hC,hb1⟩
 have R2:=Lib.hid hb1
 clear hb1 hC hbg hwb
 go_wp2_with fail
 refine (first_bad nA nn nc w1 hn).mono ?_
 rintro e w2 ⟨rfl,hb2⟩
 have S2:Hid (Below w.heap.size w w2):=Lib.hid (below_tr R2.out hb2 R2.out.size)
 clear hb2
 go_wp2_with (refine wpList_storeN (l:=z16) (o:=⟨none,.store _ (.tmp 10) (.tmp 26),_,_,_,_⟩) rfl 263 (.tmp 10) (.tmp 26) rfl w2.heap.size rfl z16 rfl (t:=263) ?_ sz16 rfl ?_
              · exact Bk.newAt _ z16 rfl
              intro w3 hw3
              have T2:Hid (Below w.heap.size w w3):=Lib.hid (by rw[hw3];exact Below.row (S2.out.alloc S2.out.size _) S2.out.size _)
              clear hw3)
 go_ret2
 exact OutB.refused 2 T2.out
set_option maxRecDepth 100000 in
theorem crypt_long (kA nA tA:Option Addr) (kn kc nc tn tc:Nat) (key nonce:List Nat) (w:World) (hK:KeyOk key) (ik:IsB w kA kn kc key) (inn:IsB w nA 12 nc nonce) (ht:65536<tn):
 Calls Tryz.prog 169 #[.slice kA kn kc,.slice nA 12 nc,.slice tA tn tc] w (OutB w [] 3):=by
 have lk:=ik.len
 have hnew:=new_any (key.length/4) kn key kA kc w hK.four (by rw[←lk];exact hK.len) ik
 have HN:=Lib.hid hnew
 have IN:=Lib.hid inn
 have lf:(firstC nonce).length=16:=firstC_len inn.len
 have hti:decide (65536<(tn:Int))=true:=by simp;omega
 clear hnew ik hK lk inn
 generalize hF:firstC nonce=F at *
 have HF:=Lib.hid hF
 have LF:=Lib.hid lf
 clear hF lf
 go_enter Tryz.func169,Tryz.ntmps169
 go_wp2_with fail
 refine HN.out.mono ?_
 rintro e w1 ⟨b,g,rfl,hbg,hwb,hC,hb1⟩
 have R2:=Lib.hid hb1
 have R4:Hid (IsB w1 nA 12 nc nonce):=Lib.hid (IN.out.ab hb1)
 clear hb1 hC hbg hwb
 go_wp2_with fail
 refine (first_any nA nc nonce w1 R4.out).mono ?_
 rintro e w2 ⟨rfl,hb2⟩
 rw[HF.out]
 have S2:Hid (Below w.heap.size w w2):=Lib.hid (below_tr R2.out hb2 R2.out.size)
 clear hb2
 go_wp2_with (refine wpList_storeN (l:=z16) (o:=⟨none,.store _ (.tmp 10) (.tmp 26),_,_,_,_⟩) rfl 263 (.tmp 10) (.tmp 26) rfl w2.heap.size rfl F rfl (t:=263) ?_ (by rw[LF.out];exact sz16) (by rw[LF.out];rfl) ?_
              · exact Bk.newAt _ z16 rfl
              intro w3 hw3
              have T2:Hid (Below w.heap.size w w3):=Lib.hid (by rw[hw3];exact Below.row (S2.out.alloc S2.out.size _) S2.out.size _)
              clear hw3)
 go_ret2
 exact OutB.refused 3 T2.out
theorem crypt_any (kA nA tA:Option Addr) (kn kc nn nc tn tc:Nat) (key nonce text:List Nat) (w:World) (ik:IsB w kA kn kc key) (inn:IsB w nA nn nc nonce) (it:IsB w tA tn tc text):
 Calls Tryz.prog 169 #[.slice kA kn kc,.slice nA nn nc,.slice tA tn tc] w (OutB w (cryptS key nonce text).1 (cryptS key nonce text).2):=by
 have lk:=ik.len
 have ln:=inn.len
 have lt:=it.len
 by_cases hK:KeyOk key
 · by_cases hn:nn=12
   · subst hn
     rcases Nat.lt_or_ge 65536 tn with ht | ht
     · rw[cryptS_long hK ln (by omega)]
       exact crypt_long kA nA tA kn kc nc tn tc key nonce w hK ik inn ht
     · rw[cryptS_ok hK ln (by omega)]
       exact crypt_ok kA nA tA kn kc nc tn tc key nonce text w hK ik inn it ht
   · rw[cryptS_arg (fun h=>hn (by rw[←ln];exact h.2))]
     exact crypt_nonce kA nA tA kn kc nn nc tn tc key w hK ik hn
 · rw[cryptS_arg (fun h=>hK h.1)]
   exact crypt_key kA nA tA kn kc nn nc tn tc w (fun h=>hK (.inl (by omega))) (fun h=>hK (.inr (by omega)))
theorem IsB.take {w:World} {A:Option Addr} {n c:Nat} {l:List Nat} (h:IsB w A n c l) {m:Nat} (hm:m≤n):IsB w A m c (l.take m):=by
 have:=h.1.take hm
 rw[←List.map_take] at this
 exact⟨this,byt_take h.2 m⟩
def dropA (A:Option Addr) (c m:Nat):Option Addr:=if c=m then A else A.map (·.add m)
theorem isB_drop {w:World} {A:Option Addr} {n c:Nat} {l:List Nat} (h:IsB w A n c l) {m:Nat} (hm:m≤n):IsB w (dropA A c m) (n-m) (c-m) (l.drop m):=by
 have:=h.1.drop hm
 rw[←List.map_drop] at this
 exact⟨this,byt_drop h.2 m⟩
theorem sl_from (W:World) (A:Option Addr) (n c m:Nat) (hm:m≤n):(Instr.sliceAt 41 (.slice A n c) (some (.int .i64 (m:Int))) none none).run Tryz.prog W = .ok (.slice (dropA A c m) (n-m) (c-m)) W:=by
 have h:Tryz.prog.underlying 41=some (.slice (Tryz.prog.elem 41)):=by kernel_rfl
 have hs:(sizeOf (Tryz.prog.elem 41)).run Tryz.prog W = .ok 1 W:=by
  have h:(Tryz.prog.info? (Tryz.prog.elem 41)).map (·.size)=some 1:=by kernel_rfl
  cases hq:Tryz.prog.info? (Tryz.prog.elem 41) with
  | none=>rw[hq] at h;cases h
  | some i=>rw[hq] at h;simp only[Option.map_some,Option.some.injEq] at h;simp[sizeOf,typeInfo,hq,h]
 rw[run_sliceAt_slice W _ _ _ _ _ h,run_slice_l W _ _ _ _ h .i64 (m:Int) (by omega) (by omega),hs]
 simp only[Result.andThen_ok,sliced,Nat.mul_one,Int.toNat_natCast]
 unfold dropA
 rfl
theorem run_copyM (W:World) (ty:TypeId) (g o d dc m:Nat) {t:TypeId} {cur l:List Nat} (hg:Bk W g t cur) {A:Option Addr} {n c:Nat} (h:IsB W A n c l) (hn:0<n) (hm:m=Nat.min n d) (hfit:o+m≤cur.length):
 (Builtin.copy_ #[41,41] ty #[.slice (some ⟨g,o,none⟩) d dc,.slice A n c]).run Tryz.prog W = .ok (goInt m) (W.setRow g (bts (cur.take o++(l.take m++cur.drop (o+m))))):=by
 have hl:=h.len
 obtain⟨x,rfl,_,hx⟩:=h.cell hn
 have hmn:m≤n:=by rw[hm];exact Nat.min_le_left _ _
 have hlm:(l.take m).length=m:=by rw[List.length_take];omega
 have hr:=run_copy_row (P:=Tryz.prog) W 41 41 ty 5 g o d dc x n c (bts cur) t ((l.take m).map (fun n:Nat=>Value.int .u8 (n:Int))) Tryz.underlying41 szByte hg (by rw[List.length_map,hlm];exact hm)
  (fun j v hv=>by
    rw[List.getElem?_map] at hv
    have hj:j<m:=by
     by_cases h':j<m
     · exact h'
     · rw[List.getElem?_eq_none (by omega)] at hv;simp at hv
    rw[hx j (by omega)]
    rw[List.getElem?_eq_getElem (by omega),List.getElem_take] at hv
    simp only[at',List.getElem?_eq_getElem (show j<l.length by omega)]
    simpa using hv)
  (by rw[List.length_map,bts_size,hlm];omega) (fun v hv=>by obtain⟨x,_,rfl⟩:=List.mem_map.1 hv;rfl)
 rw[List.length_map,hlm] at hr
 rw[hr,List.append_assoc,bts_splice]
theorem wpList_copyM {ops:Array Oper} {rest:List Oper} {o:Oper} {a:Act} {w:World} {Q:Exit→Act→World→Prop} (hgd:o.guard=none) (s x:Operand)
 (ho:o.op = .call { callee:=.builtin .copy,args:=#[s,x],argTypes:=#[41,41] })
 (g p d dc m:Nat) {t:TypeId} {cur l:List Nat} (hg:Bk w g t cur) (hs:a.eval s = .slice (some ⟨g,p,none⟩) d dc) {A:Option Addr} {n c:Nat} (hx:a.eval x = .slice A n c) (hr:IsB w A n c l) (hn:0<n) (hm:m=Nat.min n d) (hfit:p+m≤cur.length) (l2:List Nat) (he:cur.take p++(l.take m++cur.drop (p+m))=l2)
 (h:∀w2,w2=w.setRow g (bts l2)→wpList Tryz.prog ops Q rest (a.put o.dst (goInt m)) w2):wpList Tryz.prog ops Q (o::rest) a w:=by
 have hrun:=run_copyM w o.type g p d dc m hg hr hn hm hfit
 rw[he] at hrun
 refine wpList_plain hgd fun K hK=>?_
 unfold Oper.wp execOp
 simp only[ho,resolve,invoke,builtin,Sem.run_bind,Sem.run_pure,Result.andThen_ok,List.map_toArray,List.map_cons,List.map_nil,hs,hx,hrun]
 exact hK _ _ (h _ rfl)
theorem e2_one (p q:Nat):(e2 p q).all (·.oneCell')=true:=by simp[e2,Value.oneCell']
theorem szEl:(Tryz.prog.info? 305).map (·.size)=some 2:=by kernel_rfl
section
variable {w w':World} {g h l:Nat}
theorem Ek.row (k:Ek w g h l) (p q:Nat):Ek (w.setRow g (e2 p q)) g p q:=setRow_heap w g _ _ _ _ k
theorem Ek.rowFar (k:Ek w g h l) {c:Nat} (hne:g≠c) (cs:Array Value):Ek (w.setRow c cs) g h l:=(setRow_other w c g cs hne).trans k
theorem Ek.newAt (w:World) (h l:Nat) {m:Nat} (e:m=w.heap.size):Ek (w.alloc (.cells (e2 h l) 305)) m h l:=by rw[e];exact Ek.new w h l
end
theorem wpList_store2 {ops:Array Oper} {rest:List Oper} {o:Oper} {a:Act} {w:World} {Q:Exit→Act→World→Prop} (hgd:o.guard=none) (x y:Operand) (ho:o.op = .store 305 x y)
 (g:Nat) (hx:a.eval x = .pointer (some ⟨g,0,none⟩)) (p q:Nat) (hy:a.eval y = .agg #[.int .u64 (p:Int),.int .u64 (q:Int)]) {h0 l0:Nat} (hg:Ek w g h0 l0)
 (h:∀w2,w2=w.setRow g (e2 p q)→wpList Tryz.prog ops Q rest (a.put o.dst undef) w2):wpList Tryz.prog ops Q (o::rest) a w:=by
 have hrun:=run_storeVar_row (P:=Tryz.prog) w g 305 305 (e2 h0 l0) (e2 p q) hg szEl rfl (e2_one p q)
 refine wpList_plain hgd fun K hK=>?_
 have hK:=hK _ _ (h _ rfl)
 unfold Oper.wp execOp
 have hy':a.eval y = .agg (e2 p q):=hy
 simp only[ho,hx,hy',Instr.storeAt,Instr.sureAddr,Sem.run_bind,Sem.run_pure,Result.andThen_ok,hrun]
 exact hK
structure GsSt (B g:Nat) (w0 w:World) (xh xl:Nat) (sA tA:Value) (sh sl:Nat):Prop where
 rb:Bk w (B+1) 263 z16
 hb:Ek w g xh xl
 sb:Ek w (g+1) sh sl
 lb:w.heap[g+1+1]? = some (.cells #[sA,tA] 41 (0,0))
 below:Below B w0 w
 far:B+1<g
section
variable {B g:Nat} {w0 w w':World} {xh xl sh sl:Nat} {sA tA:Value}
theorem GsSt.c0 (h:GsSt B g w0 w xh xl sA tA sh sl):w.cell? ⟨g+1+1,0,none⟩=some sA:=by rw[cell_of_row w _ 0 _ _ (0,0) h.lb];rfl
theorem GsSt.c1 (h:GsSt B g w0 w xh xl sA tA sh sl):w.cell? ⟨g+1+1,1,none⟩=some tA:=by rw[cell_of_row w _ 1 _ _ (0,0) h.lb];rfl
theorem GsSt.lt (h:GsSt B g w0 w xh xl sA tA sh sl):g+1+1<w.heap.size:=lt_of_block h.lb
theorem GsSt.ab (h:GsSt B g w0 w xh xl sA tA sh sl) (hb:Below w.heap.size w w'):GsSt B g w0 w' xh xl sA tA sh sl:=
 ⟨h.rb.ab hb,h.hb.ab hb,h.sb.ab hb,(hb.block _ h.lt).trans h.lb,below_tr h.below hb (by have:=h.rb.lt;omega),h.far⟩
theorem GsSt.alloc (h:GsSt B g w0 w xh xl sA tA sh sl) (o:Obj):GsSt B g w0 (w.alloc o) xh xl sA tA sh sl:=h.ab ((Below.refl _ _).alloc (Nat.le_refl _) _)
theorem GsSt.rowFar (h:GsSt B g w0 w xh xl sA tA sh sl) {c:Nat} (hc:g+1+1<c) (cs:Array Value):GsSt B g w0 (w.setRow c cs) xh xl sA tA sh sl:=
 have hf:=h.far
 ⟨h.rb.rowFar (by omega) _,h.hb.rowFar (by omega) _,h.sb.rowFar (by omega) _,(setRow_other w c _ cs (by omega)).trans h.lb,Below.row h.below (by omega) _,h.far⟩
theorem GsSt.sum (h:GsSt B g w0 w xh xl sA tA sh sl) (p q:Nat):GsSt B g w0 (w.setRow (g+1) (e2 p q)) xh xl sA tA p q:=
 have hf:=h.far
 ⟨h.rb.rowFar (by omega) _,h.hb.rowFar (by omega) _,h.sb.row p q,(setRow_other w (g+1) _ _ (by omega)).trans h.lb,Below.row h.below (by omega) _,h.far⟩
end
theorem blk16 {l:List Nat} {n m:Nat} (hl:l.length=n) (hm:m=Nat.min n 16):z16.take 0++(l.take m++z16.drop (0+m))=pad16 (l.take 16):=by
 have e:Nat.min n 16=min n 16:=rfl
 have h1:l.take m=l.take 16:=by
  rcases Nat.lt_or_ge n 16 with h | h
  · rw[List.take_of_length_le (by omega),List.take_of_length_le (by omega)]
  · rw[show m=16 by omega]
 have h2:z16=zeros 16:=rfl
 rw[h1,h2,pad16,List.take_zero,List.nil_append,Nat.zero_add]
 congr 1
 unfold zeros
 rw[List.drop_replicate,List.length_take]
 congr 1
 omega
theorem el_parts (X:Nat) (hX:X<2 ^ 128):∃h l:Nat,h<18446744073709551616∧l<18446744073709551616∧N2 h l=X∧el X = #[.int .u64 (h:Int),.int .u64 (l:Int)]:=
 ⟨X/18446744073709551616,X%18446744073709551616,by omega,by omega,by unfold N2;omega,rfl⟩
def gS (X:Nat) (aad text:List Nat):Nat→Nat
 | 0=>0
 | 1=>absorb X 0 aad
 | _=>absorb X (absorb X 0 aad) text
theorem mul8_wrap (n:Nat) (h:n≤281474976710656):IntKind.u64.wrap (n:Int)=(n:Int)∧IntKind.u64.wrap (8*(n:Int))=8*(n:Int):=
 ⟨wrap_u64' (n:=n) (by omega) _ (by omega) (by omega),wrap_u64' (n:=8*n) (by omega) _ (by omega) (by omega)⟩
theorem xor_len (s n:Nat) (hs:s<18446744073709551616) (h:n≤281474976710656):bits .xor .u64 (s:Int) (8*(n:Int))=((s ^^^ (8*n):Nat):Int):=by
 have:=xor_u64 s (8*n) hs (by omega)
 rw[←this]
 rfl
set_option maxRecDepth 100000 in
theorem gsum_any (H:List Nat) (aA tA:Option Addr) (an ac tn tc:Nat) (aad text:List Nat) (w:World) (hH:Byt H) (lH:H.length=16) (ia:IsB w aA an ac aad) (it:IsB w tA tn tc text) (ha:an≤281474976710656) (ht:tn≤281474976710656):
 Calls Tryz.prog 186 #[.agg (bts H),.slice aA an ac,.slice tA tn tc] w fun e w'=>e = .returned (.agg (bts (sumB H aad text)))∧Below w.heap.size w w':=by
 have la:=ia.len
 have lt:=it.len
 have hX:=numB_lt16 hH lH
 obtain⟨xh,xl,hxh,hxl,hxN,hxe⟩:=el_parts _ hX
 have hof:=fun W=>of2_any H hH lH W
 rw[hxe] at hof
 have hS:sumB H aad text=digB (hsum (numB H) aad text) 16:=rfl
 rw[hS]
 have hsm:hsum (numB H) aad text=hmul (gS (numB H) aad text 2 ^^^ N2 (8*aad.length) (8*text.length)) (numB H):=rfl
 rw[la,lt] at hsm
 rw[hsm]
 have S0:Hid (Bk ((w.alloc (.cells (bts H) 263)).alloc (.cells (bts z16) 263)) w.heap.size 263 H):=Lib.hid ((Bk.newAt _ H rfl).alloc _)
 have S1:Hid (Bk ((w.alloc (.cells (bts H) 263)).alloc (.cells (bts z16) 263)) (w.heap.size+1) 263 z16):=Lib.hid (Bk.newAt _ z16 (by simp))
 have S2:Hid (Below w.heap.size w ((w.alloc (.cells (bts H) 263)).alloc (.cells (bts z16) 263))):=Lib.hid (((Below.refl _ _).alloc (Nat.le_refl _) _).alloc (Nat.le_of_lt (by simp)) _)
 have LH:=Lib.hid lH
 have IA:=Lib.hid ia
 have IT:=Lib.hid it
 have HX:=Lib.hid hX
 have HOF:=Lib.hid hof
 have HXN:=Lib.hid hxN
 generalize numB H=X at *
 have G1:gS X aad text 1=absorb X (gS X aad text 0) aad:=rfl
 have G2:gS X aad text 2=absorb X (gS X aad text 1) text:=rfl
 have G0:gS X aad text 0=0:=rfl
 have GL:=fun i=>(show gS X aad text i<2 ^ 128 from by
  have h1:=absorb_lt hX aad.length 0 aad (Nat.le_refl _) (by decide)
  match i with
  | 0=>exact (by decide:(0:Nat)<2 ^ 128)
  | 1=>exact h1
  | _+2=>exact absorb_lt hX text.length _ text (Nat.le_refl _) h1)
 generalize gS X aad text=G at *
 have HG1:=Lib.hid G1
 have HG2:=Lib.hid G2
 have HG0:=Lib.hid G0
 have HGL:=Lib.hid GL
 have HAL:=Lib.hid ha
 have HTL:=Lib.hid ht
 obtain⟨ma1,ma2⟩:=mul8_wrap an ha
 obtain⟨mt1,mt2⟩:=mul8_wrap tn ht
 clear ia it hX hof hxN hxe hS hsm lH hH la lt G0 G1 G2 GL ha ht
 go_enter Tryz.func186,Tryz.ntmps186
 go_wp2_with (refine wpList_loadB (l:=H) (o:=⟨some 14,_,_,_,_,_⟩) rfl 263 (.tmp 3) rfl w.heap.size rfl (t:=263) ?_ Tryz.underlying263 (by rw[LH.out];exact sz16) ?_
              · exact S0.out)
 refine (HOF.out _).mono ?_
 rintro e w1 ⟨rfl,hb1⟩
 have T0:Hid (Bk w1 (w.heap.size+1) 263 z16):=Lib.hid (S1.out.ab hb1)
 have T1:Hid (Below w.heap.size w w1):=Lib.hid (below_tr S2.out hb1 S2.out.size)
 clear hb1 S0 S1 S2 HOF
 go_wp2_with (first
  | ((with_reducible refine wpList_store2 (o:=⟨none,.store _ (.tmp 7) (.tmp 15),_,_,_,_⟩) rfl (.tmp 7) (.tmp 15) rfl w1.heap.size ?_ xh xl ?_ (h0:=0) (l0:=0) ?_ ?_)
     · rfl
     · rfl
     · exact (Ek.newAt _ 0 0 rfl).alloc _
     intro w2 hw2
     have hz2:w2.heap.size=w1.heap.size+1+1:=by rw[hw2];simp
     have U0:Hid (Ek w2 w1.heap.size xh xl):=Lib.hid (by rw[hw2];exact ((show Ek (w1.alloc (.cells (e2 0 0) 305)) w1.heap.size 0 0 from Ek.newAt _ 0 0 rfl).alloc _).row _ _)
     have U1:Hid (Ek w2 (w1.heap.size+1) 0 0):=Lib.hid (by rw[hw2];exact (Ek.newAt _ 0 0 (by simp)).rowFar (by omega) _)
     have U2:Hid (Bk w2 (w.heap.size+1) 263 z16):=Lib.hid (by rw[hw2];exact ((T0.out.alloc _).alloc _).rowFar (by have:=T0.out.lt;omega) _)
     have U3:Hid (Below w.heap.size w w2):=Lib.hid (by rw[hw2];exact Below.row ((T1.out.alloc T1.out.size _).alloc (by have:=T1.out.size;simp;omega) _) T1.out.size _)
     clear hw2)
  | ((with_reducible refine wpList_store2 (o:=⟨none,.store _ (.tmp 8) (.tmp 16),_,_,_,_⟩) rfl (.tmp 8) (.tmp 16) rfl (w1.heap.size+1) ?_ 0 0 ?_ (h0:=0) (l0:=0) ?_ ?_)
     · rfl
     · rfl
     · exact U1.out
     intro w3 hw3
     have hz3:w3.heap.size=w1.heap.size+1+1:=by rw[hw3];simpa using hz2
     have Z0:Hid (GsSt w.heap.size w1.heap.size w (w3.alloc (.cells #[.slice aA an ac,.slice tA tn tc] 41)) xh xl (.slice aA an ac) (.slice tA tn tc) 0 0):=Lib.hid (by
      have f1:=T0.out.lt
      have hw4:w3.heap[w1.heap.size+1+1]? = none:=by rw[←hz3];simp
      refine⟨?_,?_,?_,?_,?_,f1⟩
      · rw[hw3];exact (U2.out.rowFar (by omega) _).alloc _
      · rw[hw3];exact (U0.out.rowFar (by omega) _).alloc _
      · rw[hw3];exact (U1.out.row 0 0).alloc _
      · rw[←hz3];exact heap_alloc_new w3 _
      · rw[hw3]
        have hb:=Below.row (g:=w1.heap.size+1) U3.out (by have:=T1.out.size;omega) (e2 0 0)
        exact hb.alloc hb.size _)
     clear hw3))
 have GLT:Hid (w1.heap.size+1+1<(w3.alloc (.cells #[.slice aA an ac,.slice tA tn tc] 41)).heap.size):=Lib.hid Z0.out.lt
 generalize w3.alloc (.cells #[.slice aA an ac,.slice tA tn tc] 41)=w4 at *
 clear U0 U1 U2 U3 hz2 T0 T1 hz3 GLT
 generalize w1.heap.size=g at *
 go_loopw [10,11,12,13,21] (fun _ _ _ _ j wr=>∃i sh sl:Nat,i≤2∧j = .int .i64 i∧sh<18446744073709551616∧sl<18446744073709551616∧N2 sh sl=G i∧GsSt w.heap.size g w wr xh xl (.slice aA an ac) (.slice tA tn tc) sh sl) (fun _ _ _ _ j _=>2-(intOf j).toNat)
 case atStart=>exact⟨0,0,0,by omega,rfl,by omega,by omega,by rw[HG0.out];rfl,Z0.out⟩
 case round=>
  obtain⟨i,sh,sl,hi,rfl,hsh,hsl,hG,hst⟩:=hrel
  clear Z0
  by_cases hlt:i<2
  · have hii : (i:Int)<2:=by omega
    have hsl2:∃(A:Option Addr) (n c:Nat) (l:List Nat),wr.cell? ⟨g+1+1,i,none⟩=some (.slice A n c)∧IsB w A n c l∧G (i+1)=absorb X (G i) l∧n≤281474976710656:=by
     have:i=0∨i=1:=by omega
     rcases this with rfl | rfl
     · exact⟨aA,an,ac,aad,hst.c0,IA.out,HG1.out,HAL.out⟩
     · exact⟨tA,tn,tc,text,hst.c1,IT.out,HG2.out,HTL.out⟩
    obtain⟨A,n,c,l,hcl,hil,hgl,hn⟩:=hsl2
    have HS:=Lib.hid hst
    have HGI:=Lib.hid hG
    have HIL:=Lib.hid hil
    have HGL2:=Lib.hid hgl
    have HNB:=Lib.hid hn
    clear hst hG hil hgl hn
    go_wp2_with fail
    go_loopw [10,11,12,13] (fun v _ _ _ ws=>∃(A':Option Addr) (n' c':Nat) (l':List Nat) (h' l2:Nat),v = .slice A' n' c'∧IsB w A' n' c' l'∧n'≤281474976710656∧h'<18446744073709551616∧l2<18446744073709551616∧absorb X (N2 h' l2) l'=G (i+1)∧GsSt w.heap.size g w ws xh xl (.slice aA an ac) (.slice tA tn tc) h' l2) (fun v _ _ _ _=>lenV v)
    case atStart=>exact⟨A,n,c,l,sh,sl,rfl,HIL.out,HNB.out,hsh,hsl,by rw[HGI.out,HGL2.out],HS.out⟩
    case round=>
     obtain⟨A',n',c',l',h',l2,rfl,hin,hnb,hh',hl2,hab,hst⟩:=hrel
     clear HS HIL HNB HGI HGL2
     by_cases hpos:0<n'
     · have hp1 : decide ((0 : Int) < (n' : Int))=true:=by simp;omega
       obtain⟨m,hm⟩:∃m,m=Nat.min n' 16:=⟨_,rfl⟩
       have hm2:m≤n':=by rw[hm];exact Nat.min_le_left _ _
       have hm3:0<m:=by rw[hm];show 0<min n' 16;omega
       have hsl2:=fun W=>sl_from W A' n' c' m hm2
       have hdr:=isB_drop hin hm2
       have hln:=hin.len
       have hbk:=blk16 hln hm
       have hac:=absorb_cons X (N2 h' l2) (l:=l') (by omega)
       have hdd:l'.drop m=l'.drop 16:=by
        rcases Nat.lt_or_ge n' 16 with h | h
        · rw [List.drop_of_length_le (by have:m=n':=by rw[hm];show min n' 16=n';omega
                                         omega),List.drop_of_length_le (by omega)]
        · rw[show m=16 by rw[hm];show min n' 16=16;omega]
       rw[hdd] at hdr
       have hpb:Byt (pad16 (l'.take 16)):=pad16_byt (byt_take hin.2 16)
       have hpl:(pad16 (l'.take 16)).length=16:=pad16_len (by simp;omega)
       have hof:=fun W=>of2_any (pad16 (l'.take 16)) hpb hpl W
       have hPX:=numB_lt16 hpb hpl
       obtain⟨yh,yl,hyh,hyl,hyN,hye⟩:=el_parts _ hPX
       rw[hye] at hof
       rw[hac,←hyN,←N2_xor hl2 hyl] at hab
       generalize pad16 (l'.take 16)=pd at *
       generalize l'.drop 16=r at *
       have htm:=fun W=>times2_any (h' ^^^ yh) (l2 ^^^ yl) xh xl (xor_lt64 hh' hyh) (xor_lt64 hl2 hyl) hxh hxl W
       have hPM:=hmul_lt (x:=N2 (h' ^^^ yh) (l2 ^^^ yl)) HX.out
       rw[HXN.out] at htm
       obtain⟨zh,zl,hzh,hzl,hzN,hze⟩:=el_parts _ hPM
       rw[hze] at htm
       rw[←hzN] at hab
       have q6:=xor_u64 h' yh hh' hyh
       have q7:=xor_u64 l2 yl hl2 hyl
       generalize h' ^^^ yh=xa at *
       generalize l2 ^^^ yl=xb at *
       have HIN:=Lib.hid hin
       have HST:=Lib.hid hst
       have HAB:=Lib.hid hab
       have HDR:=Lib.hid hdr
       have HOF2:=Lib.hid hof
       have HTM:=Lib.hid htm
       have HM:=Lib.hid hm
       have HBK:=Lib.hid hbk
       have HPL:=Lib.hid hpl
       have HNB:=Lib.hid hnb
       have HP:=Lib.hid hpos
       have HM2:=Lib.hid hm2
       have HM3:=Lib.hid hm3
       clear hin hst hab hdr hof htm hm hbk hpl hpb hnb hac hdd hye hyN hze hzN hPM hPX hln hpos hm2 hm3
       have XB:Hid (Bk (wr.alloc (.cells (bts z16) 263)) wr.heap.size 263 z16):=Lib.hid (Bk.newAt _ z16 rfl)
       have XG:Hid (g+1+1<wr.heap.size):=Lib.hid HST.out.lt
       have XS:=Lib.hid (HST.out.alloc (.cells (bts z16) 263))
       have XI:=Lib.hid (HIN.out.ab XS.out.below)
       go_wp2_with (first
        | ((with_reducible refine wpList_copyM (o:=⟨some 30,.call ⟨.builtin .copy,_,_⟩,_,_,_,_⟩) rfl (.tmp 28) (.tmp 29) ?_ wr.heap.size 0 16 16 m (cur:=z16) (t:=263) ?_ ?_ (A:=A') (n:=n') (c:=c') (l:=l') ?_ ?_ ?_ ?_ ?_ pd ?_ ?_)
           · rfl
           · exact XB.out
           · rfl
           · rfl
           · exact XI.out
           · exact HP.out
           · exact HM.out
           · (have h1:m≤16:=by rw[HM.out];exact Nat.min_le_right _ _
              show 0+m≤16;omega)
           · exact HBK.out
           intro w5 hw5
           have Y1:Hid (Bk w5 wr.heap.size 263 pd):=Lib.hid (by rw[hw5];exact XB.out.row _)
           have Y2:Hid (GsSt w.heap.size g w w5 xh xl (.slice aA an ac) (.slice tA tn tc) h' l2):=Lib.hid (by rw[hw5];exact XS.out.rowFar XG.out _)
           clear hw5)
        | (refine wpList_loadB (l:=pd) (o:=⟨some 34,_,_,_,_,_⟩) rfl 263 (.tmp 11) rfl wr.heap.size rfl (t:=263) ?_ Tryz.underlying263 (by rw[HPL.out];exact sz16) ?_
           · exact Y1.out))
       refine (HOF2.out w5).mono ?_
       rintro e w6 ⟨rfl,hb6⟩
       have V1:=Lib.hid (Y2.out.ab hb6)
       clear hb6 HOF2 Y1 Y2 XB XG XS XI HBK HPL hsl2
       go_wp2_with ((with_reducible refine wpList_store2 (o:=⟨none,.store _ (.tmp 13) (.tmp 35),_,_,_,_⟩) rfl (.tmp 13) (.tmp 35) ?_ w6.heap.size ?_ yh yl ?_ (h0:=0) (l0:=0) ?_ ?_)
                    · rfl
                    · rfl
                    · rfl
                    · exact Ek.newAt _ 0 0 rfl
                    intro w7 hw7
                    have V2:Hid (GsSt w.heap.size g w w7 xh xl (.slice aA an ac) (.slice tA tn tc) h' l2):=Lib.hid (by rw[hw7];exact (V1.out.alloc _).rowFar V1.out.lt _)
                    have V3:Ek w7 w6.heap.size yh yl:=by rw[hw7];exact (show Ek (w6.alloc (.cells (e2 0 0) 305)) w6.heap.size 0 0 from Ek.newAt _ 0 0 rfl).row _ _
                    have d0:=V3.c0
                    have d1:=V3.c1
                    have e0:=V2.out.sb.c0
                    have e1:=V2.out.sb.c1
                    have f0:=V2.out.hb.c0
                    have f1:=V2.out.hb.c1
                    clear hw7 V3)
       refine (HTM.out w7).mono ?_
       rintro e w8 ⟨rfl,hb8⟩
       have V4:=Lib.hid (V2.out.ab hb8)
       clear hb8 HTM V2 V1 d0 d1 e0 e1 f0 f1 q6 q7
       go_wp2_with ((with_reducible refine wpList_store2 (o:=⟨none,.store _ (.tmp 8) (.tmp 48),_,_,_,_⟩) rfl (.tmp 8) (.tmp 48) ?_ (g+1) ?_ zh zl ?_ (h0:=h') (l0:=l2) ?_ ?_)
                    · rfl
                    · rfl
                    · rfl
                    · exact V4.out.sb
                    intro w9 hw9
                    have V5:Hid (GsSt w.heap.size g w w9 xh xl (.slice aA an ac) (.slice tA tn tc) zh zl):=Lib.hid (by rw[hw9];exact V4.out.sum zh zl)
                    clear hw9)
       go_roundw
       case rel=>
        repeat apply Exists.intro
        exact⟨⟨_,_,_,r,zh,zl,rfl,HDR.out,by have:=HNB.out;omega,hzh,hzl,HAB.out,V5.out⟩,rfl⟩
       case measure=>show n'-m<n';have:=HM2.out;have:=HM3.out;omega
     · obtain rfl:n'=0:=by omega
       have h0:=List.eq_nil_of_length_eq_zero hin.len
       subst h0
       rw[absorb_nil] at hab
       have HAB:=Lib.hid hab
       have HST:=Lib.hid hst
       clear hab hst hin hpos
       go_wp2_with fail
       go_roundw
       case rel=>exact⟨i+1,h',l2,by omega,by go_num,hh',hl2,HAB.out,HST.out⟩
       case measure=>simp[intOf];omega
  · obtain rfl : i=2:=by omega
    have e0:=hst.sb.c0
    have e1:=hst.sb.c1
    have f0:=hst.hb.c0
    have f1:=hst.hb.c1
    have q6:=xor_len sh an hsh HAL.out
    have q7:=xor_len sl tn hsl HTL.out
    have b1:sh ^^^ (8*an)<18446744073709551616:=xor_lt64 hsh (by have:=HAL.out;omega)
    have b2:sl ^^^ (8*tn)<18446744073709551616:=xor_lt64 hsl (by have:=HTL.out;omega)
    have hN:N2 (sh ^^^ (8*an)) (sl ^^^ (8*tn))=G 2 ^^^ N2 (8*an) (8*tn):=by rw[N2_xor hsl (by have:=HTL.out;omega),hG]
    have htm:=fun W=>times2_any (sh ^^^ (8*an)) (sl ^^^ (8*tn)) xh xl b1 b2 hxh hxl W
    rw[hN,HXN.out] at htm
    have hPM:=hmul_lt (x:=G 2 ^^^ N2 (8*an) (8*tn)) HX.out
    obtain⟨zh,zl,hzh,hzl,hzN,hze⟩:=el_parts _ hPM
    rw[hze] at htm
    have hby:=fun W=>bytes_any zh zl hzh hzl W
    rw[hzN] at hby
    generalize sh ^^^ (8*an)=xa at *
    generalize sl ^^^ (8*tn)=xb at *
    obtain⟨Z,hZ⟩:∃Z,Z=digB (hmul (G 2 ^^^ N2 (8*an) (8*tn)) X) 16:=⟨_,rfl⟩
    rw[←hZ] at hby
    have LZ:Hid (Z.length=16):=Lib.hid (by rw[hZ,digB_len])
    have HZ:=Lib.hid hZ
    have HTM:=Lib.hid htm
    have HBY:=Lib.hid hby
    have HST:=Lib.hid hst
    clear htm hby hst hG hN hPM hze hzN hlt hZ
    go_wp2_with fail
    refine (HTM.out wr).mono ?_
    rintro e w8 ⟨rfl,hb8⟩
    have V4:=Lib.hid (HST.out.ab hb8)
    clear hb8 HTM HST e0 e1 f0 f1 q6 q7
    go_wp2_with fail
    refine (HBY.out w8).mono ?_
    rintro e w9 ⟨rfl,hb9⟩
    have V5:=Lib.hid (V4.out.ab hb9)
    clear hb9 HBY V4
    go_wp2_with (refine wpList_storeB (l:=z16) (o:=⟨none,.store _ (.tmp 6) (.tmp 67),_,_,_,_⟩) rfl 263 (.tmp 6) (.tmp 67) rfl (w.heap.size+1) rfl Z rfl (t:=263) ?_ (by rw[LZ.out];exact sz16) (by rw[LZ.out];rfl) ?_
                 · exact V5.out.rb)
    refine bodyPost_ret (results_bts Tryz.results186 _ _ _ rfl (V5.out.rb.row Z) Tryz.underlying263 (by rw[LZ.out];exact sz16)) rfl ?_
    exact⟨by rw[HZ.out],Below.row V5.out.below (by omega) _⟩
theorem wpList_appGrow {P:Program} {w:World} {ops:Array Oper} {rest:List Oper} {o:Oper} {a:Act} {Q:Exit→Act→World→Prop} (hgd:o.guard=none) (s x:Operand) {t:TypeId}
 (ho:o.op = .call { callee:=.builtin .append,args:=#[s,x],argTypes:=#[t,t] })
 {i:TypeInfo} {z:Value} (ht:P.underlying t=some (.slice 5)) (hi:P.info? 5=some i) (hz:i.zero=some z) (hsize:i.size=1) (hby:i.bytes=1) (hzs:z.cells.size=1)
 {A:Option Addr} {n c:Nat} {la:List Nat} (ha:IsB w A n c la) (hs:a.eval s = .slice A n c) {X:Addr} {m d:Nat} {lx:List Nat} (hx:IsB w (some X) m d lx) (he:a.eval x = .slice (some X) m d)
 (hnone:A=none→n=0∧c=0) (hfull:c<n+m) (hm:n+m≤140737488355328)
 (h:∀v' w',OwB w' w.heap.size v' (la++lx)→Below w.heap.size w w'→wpList P ops Q rest (a.put o.dst v') w'):wpList P ops Q (o::rest) a w:=by
 have l1:=ha.len
 have l2:=hx.len
 refine wpList_append_grows w hgd s x t ho 5 i z 1 1 ht hi hz hsize hby hzs (by decide) A n c (bvals la) hs hnone (by simp[bvals,l1]) (fun b hb j u hj=>?_) X m d (bvals lx) he (by simp[bvals,l2]) (fun j u hj=>?_) (fun u hu=>?_) hfull (by simp only[maxLen];omega) (by omega) (fun v' w' hown hg=>?_)
 · subst hb
   have hj':j<n:=by
    rcases Nat.lt_or_ge j n with h | h
    · exact h
    · rw[List.getElem?_eq_none (by simp[bvals];omega)] at hj;cases hj
   obtain⟨y,e,_,hy⟩:=ha.cell (by omega)
   injection e with e
   subst e
   rw[hy j hj',←hj]
   simp[bvals,at',List.getElem?_eq_getElem (show j<la.length by omega)]
 · have hj':j<m:=by
    rcases Nat.lt_or_ge j m with h | h
    · exact h
    · rw[List.getElem?_eq_none (by simp[bvals];omega)] at hj;cases hj
   obtain⟨y,e,_,hy⟩:=hx.cell (by omega)
   injection e with e
   subst e
   rw[hy j hj',←hj]
   simp[bvals,at',List.getElem?_eq_getElem (show j<lx.length by omega)]
 · obtain⟨y,_,rfl⟩:=List.mem_map.1 hu
   rfl
 · refine h v' w' ⟨?_,byt_app ha.2 hx.2⟩ ⟨hg.os,hg.tape,hg.output,hg.size,fun k hk=>hg.block k hk (by simp)⟩
   rw[List.length_append,l1,l2]
   have e:bvals la++bvals lx=bvals (la++lx):=by simp[bvals]
   rw[←e]
   exact hown
set_option maxRecDepth 100000 in
theorem gopens_any (kA nA:Option Addr) (kn kc nn nc:Nat) (key nonce:List Nat) (w:World) (lk:key.length=kn) (ln:nonce.length=nn):
 Calls Tryz.prog 167 #[.slice kA kn kc,.slice nA nn nc] w fun e w'=>e = .returned (.int .i64 (if GOk key nonce then 0 else 2))∧w=w':=by
 by_cases h16:kn=16
 · by_cases h12:nn=12
   · rw[if_pos ⟨.inl (by omega),by omega⟩]
     subst h16 h12
     go_enter Tryz.func167,Tryz.ntmps167
     go_wp2_with fail
     go_ret
     exact⟨rfl,rfl⟩
   · rw[if_neg (fun h=>h12 (by rw[←ln];exact h.2))]
     have h1:((nn:Int) != 12)=true:=by simp;omega
     subst h16
     clear h12 lk ln
     go_enter Tryz.func167,Tryz.ntmps167
     go_wp2_with fail
     go_ret
     exact⟨rfl,rfl⟩
 · have hk:((kn:Int) != 16)=true:=by simp;omega
   by_cases h32:kn=32
   · by_cases h12:nn=12
     · rw[if_pos ⟨.inr (by omega),by omega⟩]
       subst h32 h12
       go_enter Tryz.func167,Tryz.ntmps167
       go_wp2_with fail
       go_ret
       exact⟨rfl,rfl⟩
     · rw[if_neg (fun h=>h12 (by rw[←ln];exact h.2))]
       have h1:((nn:Int) != 12)=true:=by simp;omega
       subst h32
       clear h12 lk ln
       go_enter Tryz.func167,Tryz.ntmps167
       go_wp2_with fail
       go_ret
       exact⟨rfl,rfl⟩
   · have hk2:((kn:Int) != 32)=true:=by simp;omega
     rw[if_neg (fun h=>by have:=h.1;omega)]
     clear h16 h32 lk ln
     go_enter Tryz.func167,Tryz.ntmps167
     go_wp2_with fail
     go_ret
     exact⟨rfl,rfl⟩
def TupB (B err:Nat) (l:List Nat) (v:Value) (W:World):Prop:=∃v0,v = .tuple #[v0,.int .i64 (err:Int)]∧OwB W B v0 l
theorem TupB.mono (B err:Nat) (l:List Nat):Mono (TupB B err l):=fun v W W' ⟨v0,h1,h2⟩ hb=>⟨v0,h1,h2.ab hb⟩
def OwR (B:Nat) (l:List Nat) (v:Value) (W:World):Prop:=OwB W B v l
theorem OwR.mono (B:Nat) (l:List Nat):Mono (OwR B l):=fun v W W' h hb=>h.ab hb
theorem OwB.lower {w:World} {B B':Nat} {v:Value} {l:List Nat} (h:OwB w B v l) (hb:B'≤B):OwB w B' v l:=by
 refine⟨⟨h.own.1,?_⟩,h.byt⟩
 rcases h.own.2 with hn | ⟨g,cap,cur,e,hb',rest⟩
 · exact .inl hn
 · exact .inr ⟨g,cap,cur,e,Nat.le_trans hb hb',rest⟩
theorem eval_got (a:Act) (t:Nat):a.tmps[t]?.getD undef=a.eval (.tmp t):=by simp[Act.eval]
set_option maxRecDepth 100000 in
theorem gtag_any (kA nA aA bA:Option Addr) (kn kc nc an ac bn bc:Nat) (key nonce aad b:List Nat) (w:World) (hK:KeyOk key) (ik:IsB w kA kn kc key) (inn:IsB w nA 12 nc nonce) (ia:IsB w aA an ac aad) (ib:IsB w bA bn bc b) (ha:an≤1000000) (hb:bn≤1000000):
 Calls Tryz.prog 168 #[.slice kA kn kc,.slice nA 12 nc,.slice aA an ac,.slice bA bn bc] w (OutB w (tagA key nonce aad b) 0):=by
 have lk:=ik.len
 have hnew:=new_any (key.length/4) kn key kA kc w hK.four (by rw[←lk];exact hK.len) ik
 have lf:(firstC nonce).length=16:=firstC_len inn.len
 have bf:Byt (firstC nonce):=firstC_byt inn.2
 have henc:=fun (x:List Nat) (hx:Byt x) (lx:x.length=16) b g W (hC:CipK W b g (key.length/4) key)=>encC_any b g (key.length/4) key x W hK.four hK.len ik.2 hx lx hC
 have le:=fun x=>encA_len key x
 have be:=fun x (hx:Byt x)=>encA_byt hK ik.2 hx
 have htag:tagA key nonce aad b=xorL (sumB (encA key z16) aad b) (encA key (firstC nonce)):=rfl
 rw[htag]
 have henc2:∀(x:List Nat) (hx:Byt x) (lx:x.length=16) b g W (hC:CipK W b g (key.length/4) key),Calls Tryz.prog 185 #[.pointer (some ⟨g,0,none⟩),.agg (bts x)] W fun e w'=>e = .returned (.tuple #[.agg (bts (encA key x)),.int .i64 0])∧Below W.heap.size W w':=henc
 have HN:=Lib.hid hnew
 have LF:=Lib.hid lf
 have BF:=Lib.hid bf
 have HE:=Lib.hid henc2
 have LE:=Lib.hid le
 have BE:=Lib.hid be
 have IN:=Lib.hid inn
 have IA:=Lib.hid ia
 have IB:=Lib.hid ib
 have HA:=Lib.hid ha
 have HB:=Lib.hid hb
 clear hnew lf bf henc henc2 le be inn ia ib ha hb htag lk ik hK
 generalize hF:firstC nonce=F at *
 have HF:=Lib.hid hF
 clear hF
 go_enter Tryz.func168,Tryz.ntmps168
 go_wp2_with fail
 refine HN.out.mono ?_
 rintro e w1 ⟨b',g,rfl,hbg,hwb,hC,hb1⟩
 have C1:=Lib.hid hC
 have B1:=Lib.hid hb1
 clear hC hb1 hbg hwb HN
 go_wp2_with fail
 refine (first_any nA nc nonce w1 (IN.out.ab B1.out)).mono ?_
 rintro e w2 ⟨rfl,hb2⟩
 rw[HF.out]
 have C2:=Lib.hid (C1.out.ab hb2)
 have B2:=Lib.hid (below_tr B1.out hb2 B1.out.size)
 clear hb2 C1 B1
 go_wp2_with (refine wpList_storeN (l:=z16) (o:=⟨none,.store _ (.tmp 12) (.tmp 29),_,_,_,_⟩) rfl 263 (.tmp 12) (.tmp 29) rfl w2.heap.size rfl F rfl (t:=263) ?_ (by rw[LF.out];exact sz16) (by rw[LF.out];rfl) ?_
              · exact Bk.newAt _ z16 rfl
              intro w3 hw3
              have F3:Hid (Bk w3 w2.heap.size 263 F):=Lib.hid (by rw[hw3];exact (show Bk (w2.alloc (.cells (bts z16) 263)) w2.heap.size 263 z16 from Bk.newAt _ z16 rfl).row _)
              have B3:Hid (Below w.heap.size w w3):=Lib.hid (by rw[hw3];exact Below.row (B2.out.alloc B2.out.size _) B2.out.size _)
              have C3:Hid (CipK w3 b' g (key.length/4) key):=Lib.hid (by
               rw[hw3]
               have hlt:=C2.out.cip.lt
               have hlb:=C2.out.wd.lt
               exact (C2.out.ab ((Below.refl _ _).alloc (Nat.le_refl _) _)).rowFar (by omega) (by omega) _)
              clear hw3)
 have E0B:=BE.out z16 z16_byt
 have E0L:=LE.out z16
 have E1B:=BE.out F BF.out
 have E1L:=LE.out F
 have HEN0:=Lib.hid (fun W h=>HE.out z16 z16_byt rfl b' g W h)
 have HEN1:=Lib.hid (fun W h=>HE.out F BF.out LF.out b' g W h)
 generalize encA key z16=E0 at *
 generalize encA key F=E1 at *
 have HE0:=Lib.hid E0B
 have HL0:=Lib.hid E0L
 have HE1:=Lib.hid E1B
 have HL1:=Lib.hid E1L
 clear E0B E0L E1B E1L HE LE BE BF B2 C2
 refine (HEN0.out w3 C3.out).mono ?_
 rintro e w4 ⟨rfl,hb4⟩
 have F4:=Lib.hid (F3.out.ab hb4)
 have B4:=Lib.hid (below_tr B3.out hb4 B3.out.size)
 have C4:=Lib.hid (C3.out.ab hb4)
 clear hb4 F3 B3 C3 HEN0
 generalize w2.heap.size=gF at *
 go_wp2_with (first
  | ((with_reducible refine wpList_storeN (l:=z16) (o:=⟨none,.store _ (.tmp 13) (.tmp 38),_,_,_,_⟩) rfl 263 (.tmp 13) (.tmp 38) ?_ w4.heap.size ?_ E0 ?_ (t:=263) ?_ ?_ ?_ ?_)
     · rfl
     · rfl
     · rfl
     · exact Bk.newAt _ z16 rfl
     · (rw[HL0.out];exact sz16)
     · (rw[HL0.out];rfl)
     intro w5 hw5
     have G5:Hid (Bk w5 w4.heap.size 263 E0):=Lib.hid (by rw[hw5];exact (show Bk (w4.alloc (.cells (bts z16) 263)) w4.heap.size 263 z16 from Bk.newAt _ z16 rfl).row _)
     have F5:Hid (Bk w5 gF 263 F):=Lib.hid (by rw[hw5];exact (F4.out.alloc _).rowFar (by have:=F4.out.lt;omega) _)
     have B5:Hid (Below w.heap.size w w5):=Lib.hid (by rw[hw5];exact Below.row (B4.out.alloc B4.out.size _) B4.out.size _)
     have C5:Hid (CipK w5 b' g (key.length/4) key):=Lib.hid (by
      rw[hw5]
      have hlt:=C4.out.cip.lt
      have hlb:=C4.out.wd.lt
      exact (C4.out.ab ((Below.refl _ _).alloc (Nat.le_refl _) _)).rowFar (by omega) (by omega) _)
     clear hw5)
  | (refine wpList_loadB (l:=F) (o:=⟨some 42,_,_,_,_,_⟩) rfl 263 (.tmp 12) rfl gF rfl (t:=263) ?_ Tryz.underlying263 (by rw[LF.out];exact sz16) ?_
     · exact F5.out))
 refine (HEN1.out w5 C5.out).mono ?_
 rintro e w6 ⟨rfl,hb6⟩
 have G6:=Lib.hid (G5.out.ab hb6)
 have B6:=Lib.hid (below_tr B5.out hb6 B5.out.size)
 clear hb6 F5 B5 C5 HEN1 F4 B4 C4 G5
 generalize w4.heap.size=g0 at *
 go_wp2_with (first
  | ((with_reducible refine wpList_storeN (l:=z16) (o:=⟨none,.store _ (.tmp 15) (.tmp 44),_,_,_,_⟩) rfl 263 (.tmp 15) (.tmp 44) ?_ w6.heap.size ?_ E1 ?_ (t:=263) ?_ ?_ ?_ ?_)
     · rfl
     · rfl
     · rfl
     · exact Bk.newAt _ z16 rfl
     · (rw[HL1.out];exact sz16)
     · (rw[HL1.out];rfl)
     intro w7 hw7
     have M7:Hid (Bk w7 w6.heap.size 263 E1):=Lib.hid (by rw[hw7];exact (show Bk (w6.alloc (.cells (bts z16) 263)) w6.heap.size 263 z16 from Bk.newAt _ z16 rfl).row _)
     have G7:Hid (Bk w7 g0 263 E0):=Lib.hid (by rw[hw7];exact (G6.out.alloc _).rowFar (by have:=G6.out.lt;omega) _)
     have B7:Hid (Below w.heap.size w w7):=Lib.hid (by rw[hw7];exact Below.row (B6.out.alloc B6.out.size _) B6.out.size _)
     clear hw7)
  | (refine wpList_loadB (l:=E0) (o:=⟨some 46,_,_,_,_,_⟩) rfl 263 (.tmp 13) rfl g0 rfl (t:=263) ?_ Tryz.underlying263 (by rw[HL0.out];exact sz16) ?_
     · exact G7.out))
 refine (gsum_any E0 aA bA an ac bn bc aad b w7 HE0.out HL0.out (IA.out.ab B7.out) (IB.out.ab B7.out) (by have:=HA.out;omega) (by have:=HB.out;omega)).mono ?_
 rintro e w8 ⟨rfl,hb8⟩
 have SB:=sumB_byt E0 aad b
 have SL:=sumB_len E0 aad b
 generalize sumB E0 aad b=S at *
 have HSB:=Lib.hid SB
 have HSL:=Lib.hid SL
 have M8:=Lib.hid (M7.out.ab hb8)
 have B8:=Lib.hid (below_tr B7.out hb8 B7.out.size)
 clear hb8 M7 G7 B7 G6 B6 SB SL
 generalize w6.heap.size=g1 at *
 go_wp2_with ((with_reducible refine wpList_storeN (l:=z16) (o:=⟨none,.store _ (.tmp 17) (.tmp 49),_,_,_,_⟩) rfl 263 (.tmp 17) (.tmp 49) ?_ w8.heap.size ?_ S ?_ (t:=263) ?_ ?_ ?_ ?_)
              · rfl
              · rfl
              · rfl
              · exact Bk.newAt _ z16 rfl
              · (rw[HSL.out];exact sz16)
              · (rw[HSL.out];rfl)
              intro w9 hw9
              have S9:Hid (Bk w9 w8.heap.size 263 S):=Lib.hid (by rw[hw9];exact (show Bk (w8.alloc (.cells (bts z16) 263)) w8.heap.size 263 z16 from Bk.newAt _ z16 rfl).row _)
              have M9:Hid (Bk w9 g1 263 E1):=Lib.hid (by rw[hw9];exact (M8.out.alloc _).rowFar (by have:=M8.out.lt;omega) _)
              have B9:Hid (Below w.heap.size w w9):=Lib.hid (by rw[hw9];exact Below.row (B8.out.alloc B8.out.size _) B8.out.size _)
              clear hw9)
 have I0:=Lib.hid (isB_whole S9.out HSB.out HSL.out (by decide:16≤9223372036854775807))
 have I1:=Lib.hid (isB_whole M9.out HE1.out HL1.out (by decide:16≤9223372036854775807))
 clear S9 M9 M8 B8
 generalize w8.heap.size=g2 at *
 refine wp_free2 [⟨50,IsR (.slice (some ⟨g2,0,none⟩) 16 16),[],false⟩,⟨51,IsR (.slice (some ⟨g1,0,none⟩) 16 16),[],false⟩,⟨52,TupB w9.heap.size 0 (xorL S E1),[0,1],false⟩,⟨53,OwR w9.heap.size (xorL S E1),[2],false⟩,⟨54,IsR (.int .i64 0),[2],false⟩] (by kernel_rfl) (by kernel_rfl) rfl rfl rfl ⟨?_,?_,?_,?_,?_,trivial⟩ ?_
 · refine⟨rfl,rfl,IsR.mono _,fun a W hA hb hd=>yields_value _ ?_ rfl⟩
   have h0:a.tmps[17]?.getD undef = .pointer (some ⟨g2,0,none⟩):=(eval_got a 17).trans ((hA.eval (by simp)).trans rfl)
   go_simp
 · refine⟨rfl,rfl,IsR.mono _,fun a W hA hb hd=>yields_value _ ?_ rfl⟩
   have h0:a.tmps[15]?.getD undef = .pointer (some ⟨g1,0,none⟩):=(eval_got a 15).trans ((hA.eval (by simp)).trans rfl)
   go_simp
 · refine⟨rfl,rfl,TupB.mono _ _ _,fun a W hA hb hd=>?_⟩
   have h0:a.tmps[50]?.getD undef = .slice (some ⟨g2,0,none⟩) 16 16:=(eval_got a 50).trans (hd 0 (by simp) _ rfl)
   have h1:a.tmps[51]?.getD undef = .slice (some ⟨g1,0,none⟩) 16 16:=(eval_got a 51).trans (hd 1 (by simp) _ rfl)
   refine yields_call 187 #[.slice (some ⟨g2,0,none⟩) 16 16,.slice (some ⟨g1,0,none⟩) 16 16] (by go_simp) ((xor_any _ _ 16 16 16 S E1 W (I0.out.ab hb) (I1.out.ab hb) (by decide)).mono ?_)
   rintro e W' ⟨v,rfl,hv,hb'⟩
   exact⟨_,rfl,⟨v,rfl,hv.lower hb.size⟩,hb'⟩
 · refine⟨rfl,rfl,OwR.mono _ _,fun a W hA hb hd=>?_⟩
   obtain⟨v0,e0,ho⟩:=hd 2 (by simp) _ rfl
   have h0:a.tmps[52]?.getD undef = .tuple #[v0,.int .i64 ((0:Nat):Int)]:=(eval_got a 52).trans e0
   refine yields_value v0 ?_ ho
   go_simp
 · refine⟨rfl,rfl,IsR.mono _,fun a W hA hb hd=>?_⟩
   obtain⟨v0,e0,ho⟩:=hd 2 (by simp) _ rfl
   have h0:a.tmps[52]?.getD undef = .tuple #[v0,.int .i64 ((0:Nat):Int)]:=(eval_got a 52).trans e0
   refine yields_value _ ?_ rfl
   go_simp
 · intro vs W hR hF hb
   have e54:vs 54 = .int .i64 0:=hR 4 _ rfl
   have h53:OwB W w9.heap.size (vs 53) (xorL S E1):=hR 3 _ rfl
   simp only[List.map_cons,List.map_nil,List.foldl_cons,List.foldl_nil,List.length_cons,List.length_nil,List.drop_succ_cons,List.drop_zero,Act.put,List.setIfInBounds_toArray,List.set_cons_zero,List.set_cons_succ,e54]
   have H53:=Lib.hid (h53.lower B9.out.size)
   have BW:=Lib.hid (below_tr B9.out hb B9.out.size)
   clear hR hF hb h53 e54
   go_wp2_with fail
   go_ret2
   exact⟨_,rfl,H53.out,BW.out⟩
theorem add_zero' (A:Option Addr):A.map (·.add 0)=A:=by
 cases A with
 | none=>rfl
 | some x=>simp[Addr.add]
theorem sl_size (W:World):(sizeOf (Tryz.prog.elem 41)).run Tryz.prog W = .ok 1 W:=by
 have h:(Tryz.prog.info? (Tryz.prog.elem 41)).map (·.size)=some 1:=by kernel_rfl
 cases hq:Tryz.prog.info? (Tryz.prog.elem 41) with
 | none=>rw[hq] at h;cases h
 | some i=>rw[hq] at h;simp only[Option.map_some,Option.some.injEq] at h;simp[sizeOf,typeInfo,hq,h]
theorem sl_upto (W:World) (A:Option Addr) (n c m:Nat) (hm:m≤c):(Instr.sliceAt 41 (.slice A n c) none (some (.int .i64 (m:Int))) none).run Tryz.prog W = .ok (.slice A m c) W:=by
 have h:Tryz.prog.underlying 41=some (.slice (Tryz.prog.elem 41)):=by kernel_rfl
 rw[run_sliceAt_slice W _ _ _ _ _ h,run_slice_h W _ _ _ _ h .i64 (m:Int) (by omega) (by omega),sl_size]
 simp only[Result.andThen_ok,sliced,Nat.zero_mul,Int.toNat_natCast,Nat.sub_zero,add_zero',ite_self]
theorem sl_clip (W:World) (A:Option Addr) (n c m:Nat) (hm:m≤c):(Instr.sliceAt 41 (.slice A n c) none (some (.int .i64 (m:Int))) (some (.int .i64 (m:Int)))).run Tryz.prog W = .ok (.slice A m m) W:=by
 have h:Tryz.prog.underlying 41=some (.slice (Tryz.prog.elem 41)):=by kernel_rfl
 rw[run_sliceAt_slice W _ _ _ _ _ h,run_slice_hm W _ _ _ _ h .i64 .i64 (m:Int) (m:Int) (by omega) (by omega) (by omega),sl_size]
 simp only[Result.andThen_ok,sliced,Nat.zero_mul,Int.toNat_natCast,Nat.sub_zero,add_zero',ite_self]
theorem IsB.clip {w:World} {A:Option Addr} {n c:Nat} {l:List Nat} (h:IsB w A n c l):IsB w A n n l:=by
 refine⟨⟨h.1.1,Nat.le_refl _,Nat.le_trans h.1.2.1 h.1.2.2.1,h.1.2.2.2.1,?_⟩,h.2⟩
 rcases h.1.2.2.2.2 with ⟨h1,h2⟩ | ⟨x,h1,h2,h3⟩
 · exact .inl ⟨h1,by have:=h.1.2.1;omega⟩
 · exact .inr ⟨x,h1,fun h0=>h2 (by have:=h.1.2.1;omega),h3⟩
theorem IsB.none {w:World} {n c:Nat} {l:List Nat} (h:IsB w none n c l):n=0∧c=0:=by
 rcases h.1.2.2.2.2 with ⟨h1,h2⟩ | ⟨x,h1,_⟩
 · exact⟨by have:=h.1.2.1;omega,h2⟩
 · cases h1
set_option maxRecDepth 100000 in
theorem gseal_ok (kA nA aA tA:Option Addr) (kn kc nn nc an ac tn tc:Nat) (key nonce aad text:List Nat) (w:World) (hG:GOk key nonce) (ik:IsB w kA kn kc key) (inn:IsB w nA nn nc nonce) (ia:IsB w aA an ac aad) (it:IsB w tA tn tc text) (ha:an≤65536) (ht:tn≤65536):
 Calls Tryz.prog 175 #[.slice kA kn kc,.slice nA nn nc,.slice aA an ac,.slice tA tn tc] w (OutB w (sealA key nonce aad text) 0):=by
 obtain⟨i0,hi0,hz0,hz1,hz2⟩:=info_parts infoU8
 have lk:=ik.len
 have ln:=inn.len
 have lt:=it.len
 obtain rfl:nn=12:=by rw[←ln];exact hG.2
 have hop:=gopens_any kA nA kn kc 12 nc key nonce w lk ln
 rw[if_pos hG] at hop
 have hcr:=crypt_any kA nA tA kn kc 12 nc tn tc key nonce text w ik inn it
 rw[cryptS_ok hG.1 ln (by omega)] at hcr
 have hC:sealA key nonce aad text=cryptA key nonce text++tagA key nonce aad (cryptA key nonce text):=rfl
 have htag:=fun A c W h1 h2 h3 h4=>gtag_any kA nA aA A kn kc nc an ac tn c key nonce aad (cryptA key nonce text) W hG.1 h1 h2 h3 h4 (by omega) (by omega)
 have hcl:(cryptA key nonce text).length=tn:=by rw[cryptA_len,lt]
 have htl:=tagA_len key nonce aad (cryptA key nonce text)
 rw[hC]
 generalize tagA key nonce aad (cryptA key nonce text)=T at *
 generalize cryptA key nonce text=C at *
 have hd1:decide (65536<(an:Int))=false:=by simp;omega
 have hd2:decide (65536<(tn:Int))=false:=by simp;omega
 have HOP:=Lib.hid hop
 have HCR:=Lib.hid hcr
 have HTG:=Lib.hid htag
 have HCL:=Lib.hid hcl
 have HTL:=Lib.hid htl
 have IK:=Lib.hid ik
 have IN:=Lib.hid inn
 have IA:=Lib.hid ia
 have HT:=Lib.hid ht
 clear hop hcr htag hcl htl ik inn ia it lk ln lt hG hC ha ht
 go_enter Tryz.func175,Tryz.ntmps175
 go_wp2_with fail
 refine HOP.out.mono ?_
 rintro e w' ⟨rfl,rfl⟩
 go_wp2_with fail
 refine HCR.out.mono ?_
 rintro e w1 ⟨v1,rfl,hv1,hb1⟩
 obtain⟨A1,c1,rfl,hc1,-⟩:=hv1.shape
 rw[HCL.out] at hv1 hc1⊢
 have O1:=Lib.hid (hv1.isB HCL.out)
 have B1:=Lib.hid hb1
 have hsl:=fun W=>sl_clip W A1 tn c1 tn hc1
 clear hv1 hb1
 go_wp2_with fail
 refine (HTG.out A1 c1 w1 (IK.out.ab B1.out) (IN.out.ab B1.out) (IA.out.ab B1.out) O1.out).mono ?_
 rintro e w2 ⟨v2,rfl,hv2,hb2⟩
 obtain⟨g2,c2,rfl,-,-,-,-,-⟩:=hv2.form (by rw[HTL.out];decide)
 rw[HTL.out] at hv2⊢
 have T2:=Lib.hid (hv2.isB HTL.out)
 have O2:=Lib.hid ((O1.out.ab hb2).clip)
 have B2:=Lib.hid (below_tr B1.out hb2 B1.out.size)
 clear hv2 hb2 B1 O1 HTG
 go_wp2_with (refine wpList_appGrow rfl (.tmp 51) (.tmp 52) rfl Tryz.underlying41 hi0 hz0 hz1 hz2 rfl (A:=A1) (n:=tn) (c:=tn) (la:=C) O2.out rfl (X:=⟨g2,0,none⟩) (m:=16) (d:=c2) (lx:=T) T2.out rfl (fun e=>by subst e;exact O2.out.none) (by omega) (by have:=HT.out;omega) ?_
              intro v3 w3 hv3 hb3
              have V3:=Lib.hid (hv3.lower B2.out.size)
              have B3:=Lib.hid (below_tr B2.out hb3 B2.out.size)
              clear hv3 hb3)
 go_ret2
 exact⟨_,rfl,V3.out,B3.out⟩
set_option maxRecDepth 100000 in
theorem gseal_arg (kA nA aA tA:Option Addr) (kn kc nn nc an ac tn tc:Nat) (key nonce:List Nat) (w:World) (hG:¬GOk key nonce) (lk:key.length=kn) (ln:nonce.length=nn):
 Calls Tryz.prog 175 #[.slice kA kn kc,.slice nA nn nc,.slice aA an ac,.slice tA tn tc] w (OutB w [] 2):=by
 have hop:=gopens_any kA nA kn kc nn nc key nonce w lk ln
 rw[if_neg hG] at hop
 have HOP:=Lib.hid hop
 clear hop lk ln hG
 go_enter Tryz.func175,Tryz.ntmps175
 go_wp2_with fail
 refine HOP.out.mono ?_
 rintro e w' ⟨rfl,rfl⟩
 go_wp2_with fail
 go_ret2
 exact OutB.refused 2 (Below.refl _ _)
theorem two_ways (a b:Bool) (P:Prop) (h1:a=true→P) (h2:a=false→b=true→P) (h:a=true∨b=true):P:=by
 cases a
 · exact h2 rfl (by simpa using h)
 · exact h1 rfl
set_option maxRecDepth 100000 in
theorem gseal_long (kA nA aA tA:Option Addr) (kn kc nn nc an ac tn tc:Nat) (key nonce:List Nat) (w:World) (hG:GOk key nonce) (lk:key.length=kn) (ln:nonce.length=nn) (h:65536<an∨65536<tn):
 Calls Tryz.prog 175 #[.slice kA kn kc,.slice nA nn nc,.slice aA an ac,.slice tA tn tc] w (OutB w [] 3):=by
 have hop:=gopens_any kA nA kn kc nn nc key nonce w lk ln
 rw[if_pos hG] at hop
 have HOP:=Lib.hid hop
 clear hop lk ln hG
 refine two_ways (decide (65536<(an:Int))) (decide (65536<(tn:Int))) _ (fun h1=>?_) (fun h1 h2=>?_) (by simp only[decide_eq_true_eq];omega)
 all_goals
  clear h
  go_enter Tryz.func175,Tryz.ntmps175
  go_wp2_with fail
  refine HOP.out.mono ?_
  rintro e w' ⟨rfl,rfl⟩
  go_wp2_with fail
  go_ret2
  exact OutB.refused 3 (Below.refl _ _)
theorem gseal_any (kA nA aA tA:Option Addr) (kn kc nn nc an ac tn tc:Nat) (key nonce aad text:List Nat) (w:World) (ik:IsB w kA kn kc key) (inn:IsB w nA nn nc nonce) (ia:IsB w aA an ac aad) (it:IsB w tA tn tc text):
 Calls Tryz.prog 175 #[.slice kA kn kc,.slice nA nn nc,.slice aA an ac,.slice tA tn tc] w (OutB w (sealS key nonce aad text).1 (sealS key nonce aad text).2):=by
 have la:=ia.len
 have lt:=it.len
 unfold sealS
 by_cases hG:GOk key nonce
 · rw[if_pos hG]
   by_cases hl:65536<aad.length∨65536<text.length
   · rw[if_pos hl]
     exact gseal_long kA nA aA tA kn kc nn nc an ac tn tc key nonce w hG ik.len inn.len (by omega)
   · rw[if_neg hl]
     exact gseal_ok kA nA aA tA kn kc nn nc an ac tn tc key nonce aad text w hG ik inn ia it (by omega) (by omega)
 · rw[if_neg hG]
   exact gseal_arg kA nA aA tA kn kc nn nc an ac tn tc key nonce w hG ik.len inn.len
set_option maxRecDepth 100000 in
theorem gopen_arg (kA nA aA tA:Option Addr) (kn kc nn nc an ac tn tc:Nat) (key nonce:List Nat) (w:World) (hG:¬GOk key nonce) (lk:key.length=kn) (ln:nonce.length=nn):
 Calls Tryz.prog 138 #[.slice kA kn kc,.slice nA nn nc,.slice aA an ac,.slice tA tn tc] w (OutB w [] 2):=by
 have hop:=gopens_any kA nA kn kc nn nc key nonce w lk ln
 rw[if_neg hG] at hop
 have HOP:=Lib.hid hop
 clear hop lk ln hG
 go_enter Tryz.func138,Tryz.ntmps138
 go_wp2_with fail
 refine HOP.out.mono ?_
 rintro e w' ⟨rfl,rfl⟩
 go_wp2_with fail
 go_ret2
 exact OutB.refused 2 (Below.refl _ _)
set_option maxRecDepth 100000 in
theorem gopen_long (kA nA aA tA:Option Addr) (kn kc nn nc an ac tn tc:Nat) (key nonce:List Nat) (w:World) (hG:GOk key nonce) (lk:key.length=kn) (ln:nonce.length=nn) (h:65536<an∨65552<tn):
 Calls Tryz.prog 138 #[.slice kA kn kc,.slice nA nn nc,.slice aA an ac,.slice tA tn tc] w (OutB w [] 3):=by
 have hop:=gopens_any kA nA kn kc nn nc key nonce w lk ln
 rw[if_pos hG] at hop
 have HOP:=Lib.hid hop
 clear hop lk ln hG
 refine two_ways (decide (65536<(an:Int))) (decide (65552<(tn:Int))) _ (fun h1=>?_) (fun h1 h2=>?_) (by simp only[decide_eq_true_eq];omega)
 all_goals
  clear h
  go_enter Tryz.func138,Tryz.ntmps138
  go_wp2_with fail
  refine HOP.out.mono ?_
  rintro e w' ⟨rfl,rfl⟩
  go_wp2_with fail
  go_ret2
  exact OutB.refused 3 (Below.refl _ _)
set_option maxRecDepth 100000 in
theorem gopen_short (kA nA aA tA:Option Addr) (kn kc nn nc an ac tn tc:Nat) (key nonce:List Nat) (w:World) (hG:GOk key nonce) (lk:key.length=kn) (ln:nonce.length=nn) (ha:an≤65536) (h:tn<16):
 Calls Tryz.prog 138 #[.slice kA kn kc,.slice nA nn nc,.slice aA an ac,.slice tA tn tc] w (OutB w [] 4):=by
 have hop:=gopens_any kA nA kn kc nn nc key nonce w lk ln
 rw[if_pos hG] at hop
 have HOP:=Lib.hid hop
 have hd1:decide (65536<(an:Int))=false:=by simp;omega
 have hd2:decide (65552<(tn:Int))=false:=by simp;omega
 have hw:IntKind.i64.wrap ((tn:Int)-16)=(tn:Int)-16:=IntWalk.i64_in _ (by omega)
 have hd3:decide ((tn:Int)-16<0)=true:=by simp;omega
 clear hop lk ln hG h ha
 go_enter Tryz.func138,Tryz.ntmps138
 go_wp2_with fail
 refine HOP.out.mono ?_
 rintro e w' ⟨rfl,rfl⟩
 go_wp2_with fail
 go_ret2
 exact OutB.refused 4 (Below.refl _ _)
set_option maxRecDepth 100000 in
theorem gopen_ok (kA nA aA tA:Option Addr) (kn kc nn nc an ac n tc:Nat) (key nonce aad s:List Nat) (w:World) (hG:GOk key nonce) (ik:IsB w kA kn kc key) (inn:IsB w nA nn nc nonce) (ia:IsB w aA an ac aad) (it:IsB w tA (n+16) tc s) (ha:an≤65536) (ht:n≤65536):
 Calls Tryz.prog 138 #[.slice kA kn kc,.slice nA nn nc,.slice aA an ac,.slice tA ((n+16:Nat)) tc] w (OutB w (if tagA key nonce aad (s.take n)=s.drop n then cryptA key nonce (s.take n) else []) (if tagA key nonce aad (s.take n)=s.drop n then 0 else 60)):=by
 have lk:=ik.len
 have ln:=inn.len
 have lt:=it.len
 have hcap:=it.1.lenCap
 obtain rfl:nn=12:=by rw[←ln];exact hG.2
 have hop:=gopens_any kA nA kn kc 12 nc key nonce w lk ln
 rw[if_pos hG] at hop
 have itk:=it.take (m:=n) (by omega)
 have itd:=isB_drop it (m:=n) (by omega)
 rw[show n+16-n=16 by omega] at itd
 have hcr:=fun W h1 h2 h3=>crypt_any kA nA tA kn kc 12 nc n tc key nonce (s.take n) W h1 h2 h3
 rw[cryptS_ok hG.1 ln (by simp;omega)] at hcr
 have htag:=fun W h1 h2 h3 h4=>gtag_any kA nA aA tA kn kc nc an ac n tc key nonce aad (s.take n) W hG.1 h1 h2 h3 h4 (by omega) (by omega)
 have htl:=tagA_len key nonce aad (s.take n)
 generalize tagA key nonce aad (s.take n)=T at *
 generalize cryptA key nonce (s.take n)=C at *
 have hd1:decide (65536<(an:Int))=false:=by simp;omega
 have hd2:decide (65552<((n+16:Nat):Int))=false:=by simp;omega
 have hd2':decide (65552<(n:Int)+16)=false:=by simp;omega
 have hnb:(n:Int)≤65536:=by omega
 have hs1:=fun W=>sl_upto W tA (n+16) tc n (by omega)
 have hs2:=fun W=>sl_from W tA (n+16) tc n (by omega)
 rw[show n+16-n=16 by omega] at hs2
 have HOP:=Lib.hid hop
 have HCR:=Lib.hid hcr
 have HTG:=Lib.hid htag
 have HTL:=Lib.hid htl
 have IK:=Lib.hid ik
 have IN:=Lib.hid inn
 have IA:=Lib.hid ia
 have ITK:=Lib.hid itk
 have ITD:=Lib.hid itd
 clear hop hcr htag htl ik inn ia it lk ln lt hG ha ht itk itd hcap
 generalize s.drop n=D at *
 generalize s.take n=b at *
 by_cases hTD:T=D
 · rw[if_pos hTD,if_pos hTD]
   have hde:decide (T=D)=true:=decide_eq_true hTD
   clear hTD
   go_enter Tryz.func138,Tryz.ntmps138
   go_wp2_with fail
   refine HOP.out.mono ?_
   rintro e w' ⟨rfl,rfl⟩
   go_wp2_with fail
   refine (HTG.out w IK.out IN.out IA.out ITK.out).mono ?_
   rintro e w1 ⟨v1,rfl,hv1,hb1⟩
   obtain⟨g1,c1,rfl,-,-,-,-,-⟩:=hv1.form (by rw[HTL.out];decide)
   rw[HTL.out] at hv1⊢
   have O1:=Lib.hid (hv1.isB HTL.out)
   have B1:=Lib.hid hb1
   clear hv1 hb1 HTG
   go_wp2_with fail
   refine (osame_any _ _ 16 c1 (tc-n) T D w1 O1.out (ITD.out.ab B1.out) (by decide)).mono ?_
   rintro e w2 ⟨rfl,hb2⟩
   have B2:=Lib.hid (below_tr B1.out hb2 B1.out.size)
   clear hb2 B1 O1
   rw[hde]
   go_wp2_with fail
   refine (HCR.out w2 (IK.out.ab B2.out) (IN.out.ab B2.out) (ITK.out.ab B2.out)).mono ?_
   rintro e w3 ⟨v3,rfl,hv3,hb3⟩
   have V3:=Lib.hid (hv3.lower B2.out.size)
   have B3:=Lib.hid (below_tr B2.out hb3 B2.out.size)
   clear hv3 hb3
   go_wp2_with fail
   go_ret2
   exact⟨_,rfl,V3.out,B3.out⟩
 · rw[if_neg hTD,if_neg hTD]
   have hde:decide (T=D)=false:=decide_eq_false hTD
   clear hTD
   go_enter Tryz.func138,Tryz.ntmps138
   go_wp2_with fail
   refine HOP.out.mono ?_
   rintro e w' ⟨rfl,rfl⟩
   go_wp2_with fail
   refine (HTG.out w IK.out IN.out IA.out ITK.out).mono ?_
   rintro e w1 ⟨v1,rfl,hv1,hb1⟩
   obtain⟨g1,c1,rfl,-,-,-,-,-⟩:=hv1.form (by rw[HTL.out];decide)
   rw[HTL.out] at hv1⊢
   have O1:=Lib.hid (hv1.isB HTL.out)
   have B1:=Lib.hid hb1
   clear hv1 hb1 HTG
   go_wp2_with fail
   refine (osame_any _ _ 16 c1 (tc-n) T D w1 O1.out (ITD.out.ab B1.out) (by decide)).mono ?_
   rintro e w2 ⟨rfl,hb2⟩
   have B2:=Lib.hid (below_tr B1.out hb2 B1.out.size)
   clear hb2 B1 O1
   rw[hde]
   go_wp2_with fail
   go_ret2
   exact OutB.refused 60 B2.out
theorem gopen_any (kA nA aA tA:Option Addr) (kn kc nn nc an ac tn tc:Nat) (key nonce aad s:List Nat) (w:World) (ik:IsB w kA kn kc key) (inn:IsB w nA nn nc nonce) (ia:IsB w aA an ac aad) (it:IsB w tA tn tc s):
 Calls Tryz.prog 138 #[.slice kA kn kc,.slice nA nn nc,.slice aA an ac,.slice tA tn tc] w (OutB w (openS key nonce aad s).1 (openS key nonce aad s).2):=by
 have la:=ia.len
 have lt:=it.len
 unfold openS
 by_cases hG:GOk key nonce
 · rw[if_pos hG]
   by_cases hl:65536<aad.length∨65552<s.length
   · rw[if_pos hl]
     exact gopen_long kA nA aA tA kn kc nn nc an ac tn tc key nonce w hG ik.len inn.len (by omega)
   · rw[if_neg hl]
     by_cases hs:s.length<16
     · rw[if_pos hs]
       exact gopen_short kA nA aA tA kn kc nn nc an ac tn tc key nonce w hG ik.len inn.len (by omega) (by omega)
     · rw[if_neg hs]
       obtain⟨n,hn⟩:∃n,tn=n+16:=⟨tn-16,by omega⟩
       subst hn
       have:=gopen_ok kA nA aA tA kn kc nn nc an ac n tc key nonce aad s w hG ik inn ia it (by omega) (by omega)
       rw[show s.length-16=n by omega]
       by_cases hT:tagA key nonce aad (s.take n)=s.drop n
       · rw[if_pos hT]
         rw[if_pos hT,if_pos hT] at this
         exact this
       · rw[if_neg hT]
         rw[if_neg hT,if_neg hT] at this
         exact this
 · rw[if_neg hG]
   exact gopen_arg kA nA aA tA kn kc nn nc an ac tn tc key nonce w hG ik.len inn.len
theorem exec_assign {P:Program} {r:Operand→Value} {o:Oper} (x:Operand) (h:o.op = .assign x) (w:World):(execOp r o).run P w = .ok (.value (r x)) w:=by
 unfold execOp
 simp only[h,Sem.run_pure]
end Go.Proofs.YtlobgddnlnffbaaGreat
