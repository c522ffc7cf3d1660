/-
  Parts of the proof, joined.
-/
import Derived.Test.YtlobgddnlnffbaaGreatBdc
import Derived.Test.YtlobgddnlnffbaaGreatBdd
namespace Go.Proofs.YtlobgddnlnffbaaGreat
set_option maxHeartbeats 2000000
open Go.RowKit
set_option linter.unusedVariables false
def gE:Nat:=0xe1 <<< 120
def mulX (y:Nat):Nat:=(y >>> 1) ^^^ (if y%2=1 then gE else 0)
def pw:Nat→Nat→Nat
 | 0,y=>y
 | i+1,y=>mulX (pw i y)
def xs:Nat→(Nat→Nat)→Nat
 | 0,_=>0
 | n+1,f=>xs n f ^^^ f n
def sel (b:Bool) (x:Nat):Nat:=if b then x else 0
def bitX (x i:Nat):Bool:=x.testBit (127-i)
def hmul (x y:Nat):Nat:=xs 128 fun i=>sel (bitX x i) (pw i y)
theorem xor_cancel (a b:Nat):(a ^^^ b) ^^^ b=a:=by rw[Nat.xor_assoc,Nat.xor_self,Nat.xor_zero]
def N2 (h l:Nat):Nat:=2 ^ 64*h+l
theorem N2_bit {h l:Nat} (hl:l<2 ^ 64) (j:Nat):(N2 h l).testBit j=if j<64 then l.testBit j else h.testBit (j-64):=Nat.testBit_two_pow_mul_add _ hl _
theorem N2_hi {h l i:Nat} (hl:l<2 ^ 64) (hi:i<64):bitX (N2 h l) i=h.testBit (63-i):=by
 unfold bitX
 rw[N2_bit hl,if_neg (by omega),show 127-i-64=63-i by omega]
theorem N2_lo {h l i:Nat} (hl:l<2 ^ 64) (hi:64≤i) (h2:i<128):bitX (N2 h l) i=l.testBit (127-i):=by
 unfold bitX
 rw[N2_bit hl,if_pos (by omega)]
theorem N2_xor {a b c d:Nat} (hb:b<2 ^ 64) (hd:d<2 ^ 64):N2 (a ^^^ c) (b ^^^ d)=N2 a b ^^^ N2 c d:=by
 apply Nat.eq_of_testBit_eq
 intro j
 rw[Nat.testBit_xor,N2_bit hb,N2_bit hd,N2_bit (Nat.xor_lt_two_pow hb hd)]
 by_cases h:j<64 <;> simp[h]
theorem N2_odd (h l:Nat):N2 h l%2=l%2:=by unfold N2;omega
def gW:Nat:=0xe1 <<< 56
theorem gE_two:gE=N2 gW 0:=by decide +kernel
theorem N2_shift (h l:Nat) (hl:l<2 ^ 64):N2 (h/2) (l/2+h%2*2 ^ 63)=N2 h l >>> 1:=by
 unfold N2
 rw[Nat.shiftRight_eq_div_pow]
 omega
theorem N2_mulX (h l:Nat) (hl:l<2 ^ 64):N2 (h/2 ^^^ (if l%2=1 then gW else 0)) (l/2+h%2*2 ^ 63)=mulX (N2 h l):=by
 unfold mulX
 rw[←N2_shift h l hl,N2_odd]
 have e:(if l%2=1 then gE else 0)=N2 (if l%2=1 then gW else 0) 0:=by
  by_cases h1:l%2=1 <;> simp[h1,gE_two,N2]
 rw[e,←N2_xor (by omega) (by omega),Nat.xor_zero]
theorem snoc_ind {P:List Nat→Prop} (h0:P []) (h1:∀l x,P l→P (l++[x])):∀l,P l:=by
 have key:∀n (l:List Nat),l.length=n→P l:=by
  intro n
  induction n with
  | zero=>intro l hl;rw[List.eq_nil_of_length_eq_zero hl];exact h0
  | succ n ih=>
    intro l hl
    obtain⟨m,x,rfl⟩:∃m x,l=m++[x]:=⟨l.dropLast,l.getLast (by intro h;rw[h] at hl;simp at hl),(List.dropLast_concat_getLast _).symm⟩
    exact h1 m x (ih m (by simpa using hl))
 exact fun l=>key _ l rfl
theorem digB_numB:∀(l:List Nat),Byt l→digB (numB l) l.length=l:=by
 refine snoc_ind (fun _=>rfl) fun l x ih hb=>?_
 have hx:x<256:=hb x (by simp)
 rw[List.length_append,List.length_singleton,digB,numB_snoc]
 rw[show (256*numB l+x)/256=numB l by omega,show (256*numB l+x)%256=x by omega,ih (fun y hy=>hb y (by simp[hy]))]
theorem numB_lt16 {y:List Nat} (hy:Byt y) (ly:y.length=16):numB y<2 ^ 128:=by
 have:=numB_lt hy
 rw[ly] at this
 exact this
def mid (x y i:Nat):Nat:=xs i fun j=>sel (bitX x j) (pw j y)
theorem mid_step (x y i:Nat):mid x y (i+1)=mid x y i ^^^ sel (bitX x i) (pw i y):=rfl
theorem mulX_lt {y:Nat} (h:y<2 ^ 128):mulX y<2 ^ 128:=by
 unfold mulX
 refine Nat.xor_lt_two_pow ?_ ?_
 · rw[Nat.shiftRight_eq_div_pow];omega
 · split
   · decide +kernel
   · omega
theorem pw_lt {y:Nat} (h:y<2 ^ 128) (i:Nat):pw i y<2 ^ 128:=by
 induction i with
 | zero=>exact h
 | succ i ih=>exact mulX_lt ih
theorem sel_lt {b:Bool} {y n:Nat} (h:y<2 ^ n):sel b y<2 ^ n:=by
 cases b
 · exact Nat.lt_of_le_of_lt (Nat.zero_le _) h
 · exact h
theorem xs_lt {n m:Nat} {f:Nat→Nat} (h:∀i,f i<2 ^ m):xs n f<2 ^ m:=by
 induction n with
 | zero=>exact Nat.lt_of_le_of_lt (Nat.zero_le _) (h 0)
 | succ n ih=>exact Nat.xor_lt_two_pow ih (h n)
theorem hmul_lt {x y:Nat} (h:y<2 ^ 128):hmul x y<2 ^ 128:=xs_lt fun i=>sel_lt (pw_lt h i)
def pad16 (l:List Nat):List Nat:=l++zeros (16-l.length)
theorem pad16_len {l:List Nat} (h:l.length≤16):(pad16 l).length=16:=by simp[pad16,zeros_len];omega
theorem byt_zeros (n:Nat):Byt (zeros n):=fun x hx=>by
 have:=List.eq_of_mem_replicate hx
 omega
theorem pad16_byt {l:List Nat} (h:Byt l):Byt (pad16 l):=byt_app h (byt_zeros _)
def absorb (H s:Nat) (l:List Nat):Nat:=
 if l.length=0 then s else absorb H (hmul (s ^^^ numB (pad16 (l.take 16))) H) (l.drop 16)
termination_by l.length
decreasing_by simp;omega
theorem absorb_nil (H s:Nat):absorb H s []=s:=by rw[absorb];rfl
theorem absorb_cons (H s:Nat) {l:List Nat} (h:0<l.length):absorb H s l=absorb H (hmul (s ^^^ numB (pad16 (l.take 16))) H) (l.drop 16):=by
 rw[absorb,if_neg (by omega)]
def hsum (H:Nat) (a t:List Nat):Nat:=hmul (absorb H (absorb H 0 a) t ^^^ N2 (8*a.length) (8*t.length)) H
theorem numB_app (a b:List Nat):numB (a++b)=256 ^ b.length*numB a+numB b:=by
 revert a
 refine snoc_ind (P:=fun b=>∀a,numB (a++b)=256 ^ b.length*numB a+numB b) (fun a=>by simp[numB]) (fun l x ih a=>?_) b
 rw[←List.append_assoc,numB_snoc,ih,numB_snoc,List.length_append,List.length_singleton,Nat.pow_succ]
 rw[Nat.mul_add,←Nat.add_assoc,Nat.mul_comm (256 ^ l.length) 256,Nat.mul_assoc]
theorem absorb_lt {H:Nat} (hH:H<2 ^ 128):∀(n s:Nat) (l:List Nat),l.length≤n→s<2 ^ 128→absorb H s l<2 ^ 128:=by
 intro n
 induction n with
 | zero=>intro s l h hs;rw[List.eq_nil_of_length_eq_zero (l:=l) (by omega),absorb_nil];exact hs
 | succ n ih=>
   intro s l h hs
   by_cases h0:l.length=0
   · rw[List.eq_nil_of_length_eq_zero h0,absorb_nil];exact hs
   · rw[absorb_cons _ _ (by omega)]
     exact ih _ _ (by simp;omega) (hmul_lt hH)
def xorL (a b:List Nat):List Nat:=List.zipWith (· ^^^ ·) a b
theorem xorL_len (a b:List Nat):(xorL a b).length=min a.length b.length:=by simp[xorL]
theorem xorL_byt {a b:List Nat} (ha:Byt a) (hb:Byt b):Byt (xorL a b):=by
 intro x hx
 obtain⟨i,hi,rfl⟩:=List.getElem_of_mem hx
 have h1:i<a.length∧i<b.length:=by rw[xorL_len] at hi;omega
 simp only[xorL,List.getElem_zipWith]
 exact Nat.xor_lt_two_pow (n:=8) (ha _ (List.getElem_mem _)) (hb _ (List.getElem_mem _))
theorem at_xorL {a b:List Nat} (h:a.length=b.length) (i:Nat):at' (xorL a b) i=at' a i ^^^ at' b i:=by
 unfold at' xorL
 rw[List.getElem?_zipWith]
 by_cases hi:i<a.length
 · rw[List.getElem?_eq_getElem hi,List.getElem?_eq_getElem (by omega)]
   rfl
 · rw[List.getElem?_eq_none (by omega),List.getElem?_eq_none (by omega)]
   rfl
def el (n:Nat):Array Value:=#[.int .u64 ((n/18446744073709551616:Nat):Int),.int .u64 ((n%18446744073709551616:Nat):Int)]
def e2 (h l:Nat):Array Value:=#[.int .u64 (h:Int),.int .u64 (l:Int)]
theorem el_N2 {h l:Nat} (hl:l<18446744073709551616):el (N2 h l)=e2 h l:=by
 unfold el e2 N2
 rw[show (2 ^ 64*h+l)/18446744073709551616=h by omega,show (2 ^ 64*h+l)%18446744073709551616=l by omega]
theorem numB_two {l:List Nat} (hl:l.length=16):numB l=N2 (numB (l.take 8)) (numB (l.drop 8)):=by
 have:=numB_app (l.take 8) (l.drop 8)
 rw[List.take_append_drop] at this
 rw[this,show (l.drop 8).length=8 by simp[hl]]
 rfl
theorem numB_lt8 {l:List Nat} (hb:Byt l) (hl:l.length=8):numB l<18446744073709551616:=by
 have:=numB_lt hb
 rw[hl] at this
 exact this
theorem byt_take {l:List Nat} (h:Byt l) (n:Nat):Byt (l.take n):=fun x hx=>h x (List.mem_of_mem_take hx)
theorem byt_drop {l:List Nat} (h:Byt l) (n:Nat):Byt (l.drop n):=fun x hx=>h x (List.mem_of_mem_drop hx)
theorem digB_two {h l:Nat} (hh:h<18446744073709551616) (hl:l<18446744073709551616):digB (N2 h l) 16=digB h 8++digB l 8:=by
 have h1:=digB_numB (digB h 8++digB l 8) (byt_app (digB_byt h 8) (digB_byt l 8))
 rw[numB_app,digB_len,numB_digB h 8 hh,numB_digB l 8 hl,List.length_append,digB_len,digB_len] at h1
 exact h1
theorem at'_take8 {l:List Nat} {n i:Nat} (h:i<n):at' (l.take n) i=at' l i:=by simp[at',h]
theorem at'_drop (l:List Nat) (n i:Nat):at' (l.drop n) i=at' l (n+i):=by simp[at',List.getElem?_drop]
set_option maxRecDepth 100000 in
theorem of2_any (l:List Nat) (hb:Byt l) (hl:l.length=16) (w:World):
 Calls Tryz.prog 222 #[.agg (bts l)] w fun e w'=>e = .returned (.agg (el (numB l)))∧Below w.heap.size w w':=by
 have hh:=numB_lt8 (byt_take hb 8) (by simp[hl])
 have hlo:=numB_lt8 (byt_drop hb 8) (by simp[hl])
 have he:el (numB l)=e2 (numB (l.take 8)) (numB (l.drop 8)):=by rw[numB_two hl,el_N2 hlo]
 have hk:Bk ((w.alloc (.cells (bts l) 263)).alloc (.cells #[.int .u64 0,.int .u64 0] 305)) w.heap.size 263 l:=(Bk.new w _ l).alloc _
 have h1:∀i,i<8→((w.alloc (.cells (bts l) 263)).alloc (.cells #[.int .u64 0,.int .u64 0] 305)).cell? ⟨w.heap.size,0+i,none⟩=some (.int .u8 (at' (l.take 8) i:Nat)):=fun i hi=>by
  rw[at'_take8 hi,Nat.zero_add]
  exact hk.cell (by omega)
 have h2:∀i,i<8→((w.alloc (.cells (bts l) 263)).alloc (.cells #[.int .u64 0,.int .u64 0] 305)).cell? ⟨w.heap.size,8+i,none⟩=some (.int .u8 (at' (l.drop 8) i:Nat)):=fun i hi=>by
  rw[at'_drop]
  exact hk.cell (by omega)
 have H1:=Lib.hid h1
 have H2:=Lib.hid h2
 have HE:=Lib.hid he
 have L1:Hid ((l.take 8).length=8):=Lib.hid (by simp[hl])
 have L2:Hid ((l.drop 8).length=8):=Lib.hid (by simp[hl])
 have B1:=byt_take hb 8
 have B2:=byt_drop hb 8
 clear h1 h2 he hk hb hl
 generalize numB l=X at *
 generalize hT:l.take 8=T at *
 generalize hD:l.drop 8=D at *
 clear hT hD
 go_enter Tryz.func222,Tryz.ntmps222
 go_wp2_with (go_at_call 135;with_reducible refine (get_any w.heap.size 0 8 16 T _ H1.out L1.out B1 (by decide) (by decide)).mono ?_;rintro e w' ⟨rfl,rfl⟩)
 go_wp2_with (go_at_call 135;with_reducible refine (get_any w.heap.size 8 8 8 D _ H2.out L2.out B2 (by decide) (by decide)).mono ?_;rintro e w' ⟨rfl,rfl⟩)
 exact bodyPost_ret (v:=.agg #[.int .u64 (numB T:Int),.int .u64 (numB D:Int)]) (by simp[results,Tryz.results222,go_sem]) rfl ⟨by rw[HE.out];rfl,((Below.refl _ _).alloc (Nat.le_refl _) _).alloc (Nat.le_of_lt (by simp)) _⟩
theorem isB_whole {w:World} {g n:Nat} {t:TypeId} {l:List Nat} (h:Bk w g t l) (hb:Byt l) (hl:l.length=n) (hm:n≤9223372036854775807):IsB w (some ⟨g,0,none⟩) n n l:=by
 have:=h.isB hb n n (by omega) (Nat.le_refl _) hm
 rwa [List.take_of_length_le (by omega)] at this
theorem isB_rowFar {w:World} {A:Option Addr} {n c:Nat} {l:List Nat} (h:IsB w A n c l) {c':Nat} (hc:∀x,A=some x→x.block≠c') (cs:Array Value):IsB (w.setRow c' cs) A n c l:=
 ⟨h.1.keep (by simp) fun x i e hi=>World.cell?_of_block (by rw[add_block];exact setRow_other w c' _ cs (hc x e)),h.2⟩
theorem bytes_splice {h l:Nat} (hh:h<18446744073709551616) (hl:l<18446744073709551616):
 z16.take 0++(digB h 8++z16.drop (0+8))=digB h 8++zeros 8∧(digB h 8++zeros 8).take 8++(digB l 8++(digB h 8++zeros 8).drop (8+8))=digB (N2 h l) 16:=by
 refine⟨rfl,?_⟩
 rw[digB_two hh hl,List.take_append_of_le_length (by rw[digB_len];exact Nat.le_refl _),List.take_of_length_le (by rw[digB_len];exact Nat.le_refl _),List.drop_of_length_le (by simp[digB_len,zeros]),List.append_nil]
set_option maxRecDepth 100000 in
theorem bytes_any (h l:Nat) (hh:h<18446744073709551616) (hl:l<18446744073709551616) (w:World):
 Calls Tryz.prog 224 #[.agg #[.int .u64 (h:Int),.int .u64 (l:Int)]] w fun e w'=>e = .returned (.agg (bts (digB (N2 h l) 16)))∧Below w.heap.size w w':=by
 have K1:Hid ((((w.alloc (.cells #[.int .u64 (h:Int),.int .u64 (l:Int)] 305)).alloc (.cells (bts z16) 263)).alloc (.cells (bts z16) 263)).cell? ⟨w.heap.size,1,none⟩=some (.int .u64 (l:Int))):=Lib.hid (by go_simp)
 have K2:Hid (Bk (((w.alloc (.cells #[.int .u64 (h:Int),.int .u64 (l:Int)] 305)).alloc (.cells (bts z16) 263)).alloc (.cells (bts z16) 263)) (w.heap.size+1) 263 z16):=Lib.hid ((Bk.newAt _ z16 (by simp)).alloc _)
 have K3:Hid (Bk (((w.alloc (.cells #[.int .u64 (h:Int),.int .u64 (l:Int)] 305)).alloc (.cells (bts z16) 263)).alloc (.cells (bts z16) 263)) (w.heap.size+1+1) 263 z16):=Lib.hid (Bk.newAt _ z16 (by simp))
 have K4:Hid (Below w.heap.size w (((w.alloc (.cells #[.int .u64 (h:Int),.int .u64 (l:Int)] 305)).alloc (.cells (bts z16) 263)).alloc (.cells (bts z16) 263))):=Lib.hid ((((Below.refl _ _).alloc (Nat.le_refl _) _).alloc (Nat.le_of_lt (by simp)) _).alloc (by simp;omega) _)
 obtain⟨Z,hZ⟩:∃Z,Z=digB (N2 h l) 16:=⟨_,rfl⟩
 obtain⟨sp1,sp2⟩:=bytes_splice hh hl
 rw[←hZ] at sp2
 have lz:Z.length=16:=by rw[hZ,digB_len]
 rw[←hZ]
 clear hZ
 have S1:=Lib.hid sp1
 have S2:=Lib.hid sp2
 have LZ:=Lib.hid lz
 clear sp1 sp2 lz
 have P1:Hid (h<256 ^ 8):=Lib.hid hh
 have P2:Hid (l<256 ^ 8):=Lib.hid hl
 go_enter Tryz.func224,Tryz.ntmps224
 go_wp2_with fail
 refine (put_any h 8 _ hh (by decide) (by decide) P1.out).mono ?_
 rintro e w1 ⟨rfl,hbk,hbw⟩
 have hs1:=hbw.size
 have R2:Hid (Bk w1 (w.heap.size+1) 263 z16):=Lib.hid (K2.out.ab hbw)
 have R3:Hid (Bk w1 (w.heap.size+1+1) 263 z16):=Lib.hid (K3.out.ab hbw)
 have R4:Hid (Below w.heap.size w w1):=Lib.hid (K4.out.trans (hbw.mono K4.out.size))
 have hcl:w1.cell? ⟨w.heap.size,1,none⟩=some (.int .u64 (l:Int)):=(hbw.cell (p:=⟨w.heap.size,1,none⟩) (by simp;omega)).trans K1.out
 have R5:Hid (Bk w1 (w.heap.size+1+1+1) 5 (digB h 8)):=Lib.hid (by simpa using hbk)
 have R6:Hid (w.heap.size+1+1+1<w1.heap.size):=Lib.hid R5.out.lt
 clear hbk hbw hs1
 go_wp2_with fail
 refine (put_any l 8 _ hl (by decide) (by decide) P2.out).mono ?_
 rintro e w2 ⟨rfl,hbk,hbw⟩
 have T2:Hid (Bk w2 (w.heap.size+1) 263 z16):=Lib.hid (R2.out.ab hbw)
 have T3:Hid (Bk w2 (w.heap.size+1+1) 263 z16):=Lib.hid (R3.out.ab hbw)
 have T4:Hid (Below w.heap.size w w2):=Lib.hid (R4.out.trans (hbw.mono R4.out.size))
 have T5:Hid (IsB w2 (some ⟨w.heap.size+1+1+1,0,none⟩) 8 8 (digB h 8)):=Lib.hid (isB_whole (R5.out.ab hbw) (digB_byt h 8) (digB_len h 8) (by decide))
 have T6:Hid (IsB w2 (some ⟨w1.heap.size,0,none⟩) 8 8 (digB l 8)):=Lib.hid (isB_whole hbk (digB_byt l 8) (digB_len l 8) (by decide))
 have hg:w.heap.size+1+1+1<w1.heap.size:=R6.out
 have HG:=Lib.hid hg
 generalize w1.heap.size=g1 at *
 clear hbk hbw hcl R2 R3 R4 R5 R6 K1 K2 K3 K4 hg
 go_wp2_with (first
  | (refine wpList_copyB (o:=⟨some 22,.call ⟨.builtin .copy,_,_⟩,_,_,_,_⟩) rfl _ _ rfl (w.heap.size+1+1) 0 8 16 T3.out rfl rfl T5.out (by decide) (by decide) (by decide) (digB h 8++zeros 8) S1.out ?_
     intro w3 hw3
     have U2:Hid (Bk w3 (w.heap.size+1) 263 z16):=Lib.hid (by rw[hw3];exact T2.out.rowFar (c:=w.heap.size+1+1) (by omega) _)
     have U3:Hid (Bk w3 (w.heap.size+1+1) 263 (digB h 8++zeros 8)):=Lib.hid (by rw[hw3];exact T3.out.row _)
     have U4:Hid (Below w.heap.size w w3):=Lib.hid (by rw[hw3];exact Below.row T4.out (by omega) _)
     have U6:Hid (IsB w3 (some ⟨g1,0,none⟩) 8 8 (digB l 8)):=Lib.hid (by rw[hw3];exact isB_rowFar T6.out (c':=w.heap.size+1+1) (fun x hx=>by injection hx with hx;subst hx;have:=HG.out;show g1≠_;omega) _)
     clear hw3)
  | (refine wpList_copyB (o:=⟨some 25,.call ⟨.builtin .copy,_,_⟩,_,_,_,_⟩) rfl _ _ rfl (w.heap.size+1+1) 8 8 8 U3.out rfl rfl U6.out (by decide) (by decide) (by simp[digB_len,zeros_len]) Z S2.out ?_
     intro w4 hw4
     have V2:Hid (Bk w4 (w.heap.size+1) 263 z16):=Lib.hid (by rw[hw4];exact U2.out.rowFar (c:=w.heap.size+1+1) (by omega) _)
     have V3:Hid (Bk w4 (w.heap.size+1+1) 263 Z):=Lib.hid (by rw[hw4];exact U3.out.row _)
     have V4:Hid (Below w.heap.size w w4):=Lib.hid (by rw[hw4];exact Below.row U4.out (by omega) _)
     clear hw4)
  | (refine wpList_loadB (l:=Z) (o:=⟨some 26,_,_,_,_,_⟩) rfl 263 (.tmp 3) rfl (w.heap.size+1+1) rfl (t:=263) ?_ Tryz.underlying263 (by rw[LZ.out];exact sz16) ?_
     · exact V3.out
     refine wpList_storeB (l:=z16) (o:=⟨none,.store _ (.tmp 2) (.tmp 26),_,_,_,_⟩) rfl 263 (.tmp 2) (.tmp 26) rfl (w.heap.size+1) rfl Z rfl (t:=263) ?_ (by rw[LZ.out];exact sz16) (by rw[LZ.out];rfl) ?_
     · exact V2.out))
 refine bodyPost_ret (results_bts Tryz.results224 _ _ _ rfl (V2.out.row Z) Tryz.underlying263 (by rw[LZ.out];exact sz16)) rfl ?_
 exact⟨rfl,Below.row V4.out (by omega) _⟩
def encA (key x:List Nat):List Nat:=encK (wordsAll (key.length/4) key) (key.length/4+6) x
theorem encA_len (key x:List Nat):(encA key x).length=16:=encK_len _ _ _
def KeyOk (key:List Nat):Prop:=key.length=16∨key.length=32
theorem KeyOk.four {key:List Nat} (h:KeyOk key):key.length/4=4∨key.length/4=8:=by rcases h with h | h <;> rw[h] <;> decide
theorem KeyOk.len {key:List Nat} (h:KeyOk key):key.length=4*(key.length/4):=by rcases h with h | h <;> omega
theorem encA_byt {key x:List Nat} (hk:KeyOk key) (hb:Byt key) (hx:Byt x):Byt (encA key x):=encK_byt (wordsAll_exp hk.four hk.len hb).byt hx
def nextN (c:List Nat):Nat→List Nat
 | 0=>c
 | m+1=>nextC (nextN c m)
theorem nextN_len {c:List Nat} (h:c.length=16) (m:Nat):(nextN c m).length=16:=by
 induction m with
 | zero=>exact h
 | succ m ih=>exact nextC_len ih
theorem nextN_byt {c:List Nat} (h:Byt c) (m:Nat):Byt (nextN c m):=by
 induction m with
 | zero=>exact h
 | succ m ih=>exact nextC_byt ih
def ksB (key first:List Nat) (j:Nat):Nat:=at' (encA key (nextN first (j/16+1))) (j%16)
theorem ksB_lt {key first:List Nat} (hk:KeyOk key) (hb:Byt key) (hf:Byt first) (j:Nat):ksB key first j<256:=(encA_byt hk hb (nextN_byt hf _)).at' _
def cryptA (key nonce text:List Nat):List Nat:=(List.range text.length).map fun i=>at' text i ^^^ ksB key (firstC nonce) i
theorem cryptA_len (key nonce text:List Nat):(cryptA key nonce text).length=text.length:=by simp[cryptA]
theorem cryptA_at {key nonce text:List Nat} {i:Nat} (h:i<text.length):at' (cryptA key nonce text) i=at' text i ^^^ ksB key (firstC nonce) i:=by simp[cryptA,at',h]
theorem xor_lt256 {a b:Nat} (ha:a<256) (hb:b<256):a ^^^ b<256:=Nat.xor_lt_two_pow (n:=8) ha hb
theorem cryptA_byt {key nonce text:List Nat} (hk:KeyOk key) (hb:Byt key) (hn:Byt nonce) (ht:Byt text):Byt (cryptA key nonce text):=by
 intro x hx
 obtain⟨i,hi,rfl⟩:=List.mem_map.1 hx
 exact xor_lt256 (ht.at' i) (ksB_lt hk hb (firstC_byt hn) i)
theorem at'_ext {a b:List Nat} (hl:a.length=b.length) (h:∀i,i<a.length→at' a i=at' b i):a=b:=by
 apply List.ext_getElem hl
 intro i h1 h2
 have:=h i h1
 simpa[at',List.getElem?_eq_getElem h1,List.getElem?_eq_getElem h2] using this
theorem crypt_crypt (key nonce text:List Nat):cryptA key nonce (cryptA key nonce text)=text:=by
 refine at'_ext (by rw[cryptA_len,cryptA_len]) fun i hi=>?_
 rw[cryptA_len,cryptA_len] at hi
 rw[cryptA_at (by rw[cryptA_len];exact hi),cryptA_at hi,Nat.xor_assoc,Nat.xor_self,Nat.xor_zero]
def cryptS (key nonce text:List Nat):List Nat×Nat:=
 if (key.length=16∨key.length=32)∧nonce.length=12 then if text.length > 65536 then ([],3) else (cryptA key nonce text,0) else ([],2)
theorem cryptS_ok {key nonce text:List Nat} (hk:KeyOk key) (hn:nonce.length=12) (ht:text.length≤65536):cryptS key nonce text=(cryptA key nonce text,0):=by
 unfold cryptS
 rw[if_pos ⟨hk,hn⟩,if_neg (by omega)]
theorem cryptS_long {key nonce text:List Nat} (hk:KeyOk key) (hn:nonce.length=12) (ht:65536<text.length):cryptS key nonce text=([],3):=by
 unfold cryptS
 rw[if_pos ⟨hk,hn⟩,if_pos (by omega)]
theorem cryptS_arg {key nonce text:List Nat} (h:¬(KeyOk key∧nonce.length=12)):cryptS key nonce text=([],2):=by
 unfold cryptS
 exact if_neg h
theorem xorL_at {a b:List Nat} (h:a.length=b.length) (i:Nat):at' (xorL a b) i=at' a i ^^^ at' b i:=at_xorL h i
def sumB (h aad text:List Nat):List Nat:=digB (hsum (numB h) aad text) 16
theorem sumB_len (h aad text:List Nat):(sumB h aad text).length=16:=digB_len _ _
theorem sumB_byt (h aad text:List Nat):Byt (sumB h aad text):=digB_byt _ _
def tagA (key nonce aad b:List Nat):List Nat:=xorL (sumB (encA key z16) aad b) (encA key (firstC nonce))
theorem tagA_len (key nonce aad b:List Nat):(tagA key nonce aad b).length=16:=by rw[tagA,xorL_len,sumB_len,encA_len];rfl
theorem z16_byt:Byt z16:=by unfold Byt z16;decide
theorem tagA_byt {key nonce aad b:List Nat} (hk:KeyOk key) (hb:Byt key) (hn:Byt nonce):Byt (tagA key nonce aad b):=xorL_byt (sumB_byt _ _ _) (encA_byt hk hb (firstC_byt hn))
def sealA (key nonce aad text:List Nat):List Nat:=cryptA key nonce text++tagA key nonce aad (cryptA key nonce text)
theorem sealA_len (key nonce aad text:List Nat):(sealA key nonce aad text).length=text.length+16:=by rw[sealA,List.length_append,cryptA_len,tagA_len]
def GOk (key nonce:List Nat):Prop:=(key.length=16∨key.length=32)∧nonce.length=12
instance (key nonce:List Nat):Decidable (GOk key nonce):=by unfold GOk;infer_instance
def sealS (key nonce aad text:List Nat):List Nat×Nat:=
 if GOk key nonce then if 65536<aad.length∨65536<text.length then ([],3) else (sealA key nonce aad text,0) else ([],2)
def openS (key nonce aad s:List Nat):List Nat×Nat:=
 if GOk key nonce then
  if 65536<aad.length∨65552<s.length then ([],3)
  else if s.length<16 then ([],4)
  else if tagA key nonce aad (s.take (s.length-16))=s.drop (s.length-16) then (cryptA key nonce (s.take (s.length-16)),0) else ([],60)
 else ([],2)
theorem open_seal {key nonce aad text:List Nat} (h:GOk key nonce) (ha:aad.length≤65536) (ht:text.length≤65536):openS key nonce aad (sealA key nonce aad text)=(text,0):=by
 have hl:=sealA_len key nonce aad text
 have e1:(sealA key nonce aad text).take ((sealA key nonce aad text).length-16)=cryptA key nonce text:=by
  rw[hl,Nat.add_sub_cancel,sealA,List.take_append_of_le_length (by rw[cryptA_len];omega),List.take_of_length_le (by rw[cryptA_len];omega)]
 have e2:(sealA key nonce aad text).drop ((sealA key nonce aad text).length-16)=tagA key nonce aad (cryptA key nonce text):=by
  rw[hl,Nat.add_sub_cancel,sealA,List.drop_append_of_le_length (by rw[cryptA_len];omega),List.drop_of_length_le (by rw[cryptA_len];omega),List.nil_append]
 unfold openS
 rw[if_pos h,if_neg (by omega),if_neg (by omega),e1,e2,if_pos rfl,crypt_crypt]
theorem nextC_splice (c:List Nat) (lc:c.length=16) (q:Nat) (hq:q=(numB (c.drop 12)+1)%4294967296):c.take 12++(digB q 4++c.drop (12+4))=nextC c:=by
 unfold nextC
 rw[List.drop_of_length_le (l:=c) (by omega),List.append_nil,hq]
set_option maxRecDepth 100000 in
theorem next_any (c:List Nat) (hc:Byt c) (lc:c.length=16) (w:World):
 Calls Tryz.prog 226 #[.agg (bts c)] w fun e w'=>e = .returned (.agg (bts (nextC c)))∧Below w.heap.size w w':=by
 have hk1:Bk ((w.alloc (.cells (bts c) 263)).alloc (.cells (bts z16) 263)) w.heap.size 263 c:=(Bk.new w _ c).alloc _
 have hk2:Bk ((w.alloc (.cells (bts c) 263)).alloc (.cells (bts z16) 263)) (w.heap.size+1) 263 z16:=Bk.newAt _ z16 (by simp)
 have hbl:Below w.heap.size w ((w.alloc (.cells (bts c) 263)).alloc (.cells (bts z16) 263)):=((Below.refl _ _).alloc (Nat.le_refl _) _).alloc (by simp) _
 have h1:∀i,i<4→((w.alloc (.cells (bts c) 263)).alloc (.cells (bts z16) 263)).cell? ⟨w.heap.size,12+i,none⟩=some (.int .u8 (at' (c.drop 12) i:Nat)):=fun i hi=>by
  rw[show at' (c.drop 12) i=c[12+i]?.getD 0 by simp[at',List.getElem?_drop]]
  exact hk1.cell (by omega)
 have ll:(c.drop 12).length=4:=by simp[lc]
 have bl:Byt (c.drop 12):=fun x hx=>hc x (List.mem_of_mem_drop hx)
 have hm:=numB_drop12 hc lc
 have lz:(nextC c).length=16:=nextC_len lc
 obtain⟨q,hq⟩:∃q,q=(numB (c.drop 12)+1)%4294967296:=⟨_,rfl⟩
 have hsp:=nextC_splice c lc q hq
 have hq32:q<4294967296:=by rw[hq];exact Nat.mod_lt _ (by decide)
 have hw2:IntKind.u32.wrap ((numB (c.drop 12):Int)+1)=(q:Int):=by
  have:=wrap_u32m (numB (c.drop 12)+1)
  rw[hq]
  exact this
 have hw1:=wrap_u64' (n:=4294967297) (by decide) ((numB (c.drop 12):Int)+1) (by omega) (by omega)
 have hw3:=wrap_u64' (n:=4294967297) (by decide) (q:Int) (by omega) (by omega)
 have K1:=Lib.hid hk1
 have K2:=Lib.hid hk2
 have K3:=Lib.hid hbl
 have H1:=Lib.hid h1
 have LL:=Lib.hid ll
 have LZ:=Lib.hid lz
 have SP:=Lib.hid hsp
 have LC:=Lib.hid lc
 have HQ:Hid (q<256 ^ 4):=Lib.hid hq32
 clear hk1 hk2 hbl h1 ll lz hsp lc hq
 generalize nextC c=z at *
 generalize hD:c.drop 12=D at *
 clear hD
 generalize hM:numB D=m at *
 have HM:=Lib.hid hM
 clear hM
 go_enter Tryz.func226,Tryz.ntmps226
 go_wp2_with fail
 refine (get_any w.heap.size 12 4 4 D _ H1.out LL.out bl (by decide) (by decide)).mono ?_
 rintro e w' ⟨rfl,rfl⟩
 rw[HM.out]
 go_wp2_with fail
 refine (put_any q 4 _ (by omega) (by decide) (by decide) HQ.out).mono ?_
 rintro e w1 ⟨rfl,hbk,hbw⟩
 have R1:Hid (Bk w1 w.heap.size 263 c):=Lib.hid (K1.out.ab hbw)
 have R2:Hid (Bk w1 (w.heap.size+1) 263 z16):=Lib.hid (K2.out.ab hbw)
 have R3:Hid (Below w.heap.size w w1):=Lib.hid (K3.out.trans (hbw.mono K3.out.size))
 have R4:Hid (IsB w1 (some ⟨w.heap.size+1+1,0,none⟩) 4 4 (digB q 4)):=Lib.hid (by
  have:=Bk.isB hbk (digB_byt q 4) 4 4 (by rw[digB_len];exact Nat.le_refl _) (by decide) (by decide)
  rw[List.take_of_length_le (by rw[digB_len];exact Nat.le_refl _)] at this
  simpa using this)
 have LD:Hid (12+4≤c.length):=Lib.hid (by rw[LC.out];decide)
 clear hbk hbw
 go_wp2_with (first
  | (refine wpList_copyB (o:=⟨_,.call ⟨.builtin .copy,_,_⟩,_,_,_,_⟩) rfl _ _ rfl w.heap.size 12 4 4 R1.out rfl rfl R4.out (by decide) (by decide) LD.out z SP.out ?_
     intro w2 hw2
     have T1:Hid (Bk w2 w.heap.size 263 z):=Lib.hid (by rw[hw2];exact R1.out.row _)
     have T2:Hid (Bk w2 (w.heap.size+1) 263 z16):=Lib.hid (by rw[hw2];exact R2.out.rowFar (c:=w.heap.size) (by omega) _)
     have T3:Hid (Below w.heap.size w w2):=Lib.hid (by rw[hw2];exact Below.row R3.out (Nat.le_refl _) _)
     clear hw2)
  | (refine wpList_loadB (l:=z) (o:=⟨some 23,_,_,_,_,_⟩) rfl 263 (.tmp 1) rfl w.heap.size rfl (t:=263) ?_ Tryz.underlying263 (by rw[LZ.out];exact sz16) ?_
     · exact T1.out
     refine wpList_storeB (l:=z16) (o:=⟨none,.store _ (.tmp 2) (.tmp 23),_,_,_,_⟩) rfl 263 (.tmp 2) (.tmp 23) rfl (w.heap.size+1) rfl z rfl (t:=263) ?_ (by rw[LZ.out];exact sz16) (by rw[LZ.out];rfl) ?_
     · exact T2.out))
 refine bodyPost_ret (results_bts Tryz.results226 _ _ _ rfl (T2.out.row z) Tryz.underlying263 (by rw[LZ.out];exact sz16)) rfl ?_
 exact⟨rfl,Below.row T3.out (by omega) _⟩
theorem wpList_storeN {P:Program} {ops:Array Oper} {rest:List Oper} {o:Oper} {a:Act} {w:World} {Q:Exit→Act→World→Prop} (hgd:o.guard=none) (ty:TypeId) (x y:Operand) (ho:o.op = .store ty x y)
 (g:Nat) (hx:a.eval x = .pointer (some ⟨g,0,none⟩)) (l':List Nat) (hy:a.eval y = .agg (bts l')) {t:TypeId} {l:List Nat} (hg:Bk w g t l)
 (hi:(P.info? ty).map (·.size)=some l'.length) (hl:l.length=l'.length)
 (h:∀w2,w2=w.setRow g (bts l')→wpList P ops Q rest (a.put o.dst undef) w2):wpList P ops Q (o::rest) a w:=
 wpList_storeB hgd ty x y ho g hx l' hy hg hi hl (h _ rfl)
structure Outside (lo hi:Nat) (w w':World):Prop where
 os:w'.os=w.os
 tape:w'.tape=w.tape
 output:w'.output=w.output
 size:w.heap.size≤w'.heap.size
 block:∀k,k<w.heap.size→k<lo∨hi<k→w'.heap[k]? = w.heap[k]?
theorem Outside.below {lo hi B:Nat} {w0 w w':World} (h:Outside lo hi w w') (hb:Below B w0 w) (hB:B≤lo) (hs:B≤w.heap.size):Below B w0 w':=
 hb.trans ⟨h.os,h.tape,h.output,h.size,fun k hk=>h.block k (by omega) (.inl (by omega))⟩
theorem Outside.bk {lo hi b:Nat} {w w':World} {t:TypeId} {l:List Nat} (h:Outside lo hi w w') (hk:Bk w b t l) (hb:b<lo∨hi<b):Bk w' b t l:=(h.block b hk.lt hb).trans hk
structure Strm (w:World) (B b g:Nat) (key at_ blk:List Nat) (k:Nat):Prop where
 cc:w.heap[B]? = some (.cells #[.pointer (some ⟨g,0,none⟩)] 260 (0,0))
 ac:Bk w (B+1) 263 at_
 bc:Bk w (B+1+1) 263 blk
 kc:w.heap[B+1+1+1]? = some (.cells #[.int .i64 (k:Int)] 3 (0,0))
 cip:CipK w b g (key.length/4) key
 lt:g<B
 bg:b<g
section
variable {w w':World} {lo hi B b g k:Nat} {key at_ blk:List Nat}
theorem Outside.refl (lo hi:Nat) (w:World):Outside lo hi w w:=⟨rfl,rfl,rfl,Nat.le_refl _,fun _ _ _=>rfl⟩
theorem Outside.call {w0:World} (h:Outside lo hi w0 w) (hb:Below w.heap.size w w'):Outside lo hi w0 w':=
 ⟨hb.os.trans h.os,hb.tape.trans h.tape,hb.output.trans h.output,Nat.le_trans h.size hb.size,fun j hj hx=>(hb.block j (Nat.lt_of_lt_of_le hj h.size)).trans (h.block j hj hx)⟩
theorem Outside.row {w0:World} (h:Outside lo hi w0 w) {c:Nat} (h1:lo≤c) (h2:c≤hi) (cs:Array Value):Outside lo hi w0 (w.setRow c cs):=
 ⟨h.os,h.tape,h.output,by simpa using h.size,fun j hj hx=>(setRow_other w c j cs (by omega)).trans (h.block j hj hx)⟩
theorem Outside.setCell {w0:World} (h:Outside lo hi w0 w) {c j:Nat} (h1:lo≤c) (h2:c≤hi) (u:Value):Outside lo hi w0 (w.setCell ⟨c,j,none⟩ u):=
 ⟨h.os,h.tape,h.output,by simpa[World.setCell] using h.size,fun i hi hx=>(Below.heap_setCell w ⟨c,j,none⟩ u i (by show i≠c;omega)).trans (h.block i hi hx)⟩
theorem Strm.call (h:Strm w B b g key at_ blk k) (hb:Below w.heap.size w w'):Strm w' B b g key at_ blk k:=
 ⟨(hb.block _ (lt_of_block h.cc)).trans h.cc,h.ac.ab hb,h.bc.ab hb,(hb.block _ (lt_of_block h.kc)).trans h.kc,h.cip.ab hb,h.lt,h.bg⟩
theorem CipK.rowFar {K:Nat} {l:List Nat} (h:CipK w b g K l) {c:Nat} (h1:b≠c) (h2:g≠c) (cs:Array Value):CipK (w.setRow c cs) b g K l:=
 ⟨h.wd.rowFar h1 cs,⟨(setRow_other w c g cs h2).trans h.cip.row⟩⟩
theorem CipK.cellFar {K:Nat} {l:List Nat} (h:CipK w b g K l) {c j:Nat} (h1:b≠c) (h2:g≠c) (u:Value):CipK (w.setCell ⟨c,j,none⟩ u) b g K l:=
 ⟨h.wd.far h1 u,⟨(Below.heap_setCell w ⟨c,j,none⟩ u g h2).trans h.cip.row⟩⟩
theorem Strm.atRow (h:Strm w B b g key at_ blk k) (l:List Nat):Strm (w.setRow (B+1) (bts l)) B b g key l blk k:=
 have h1:=h.lt
 have h2:=h.bg
 ⟨(setRow_other w _ _ _ (by omega)).trans h.cc,h.ac.row l,h.bc.rowFar (by omega) _,(setRow_other w _ _ _ (by omega)).trans h.kc,h.cip.rowFar (by omega) (by omega) _,h.lt,h.bg⟩
theorem Strm.blkRow (h:Strm w B b g key at_ blk k) (l:List Nat):Strm (w.setRow (B+1+1) (bts l)) B b g key at_ l k:=
 have h1:=h.lt
 have h2:=h.bg
 ⟨(setRow_other w _ _ _ (by omega)).trans h.cc,h.ac.rowFar (by omega) _,h.bc.row l,(setRow_other w _ _ _ (by omega)).trans h.kc,h.cip.rowFar (by omega) (by omega) _,h.lt,h.bg⟩
theorem Strm.kSet (h:Strm w B b g key at_ blk k) (m:Nat):Strm (w.setCell ⟨B+1+1+1,0,none⟩ (.int .i64 (m:Int))) B b g key at_ blk m:=
 have h1:=h.lt
 have h2:=h.bg
 ⟨(Below.heap_setCell w _ _ _ (by show B≠B+1+1+1;omega)).trans h.cc,h.ac.far (by omega) _,h.bc.far (by omega) _,heap_setCell_same w _ 0 _ _ (.int .i64 (m:Int)) h.kc,h.cip.cellFar (by omega) (by omega) _,h.lt,h.bg⟩
theorem Strm.kCell (h:Strm w B b g key at_ blk k):w.cell? ⟨B+1+1+1,0,none⟩=some (.int .i64 (k:Int)):=by rw[cell_of_row w _ 0 _ _ (0,0) h.kc];rfl
theorem Strm.kFree (h:Strm w B b g key at_ blk k) (j:Nat):w.frozen? ⟨B+1+1+1,j,none⟩=false:=frozen_of_row w _ j _ _ h.kc
theorem Strm.cCell (h:Strm w B b g key at_ blk k):w.cell? ⟨B,0,none⟩=some (.pointer (some ⟨g,0,none⟩)):=by rw[cell_of_row w _ 0 _ _ (0,0) h.cc];rfl
end
set_option maxRecDepth 100000 in
theorem strm_more (B b g k:Nat) (key at_ blk:List Nat) (w:World) (h:Strm w B b g key at_ blk k) (hk:k<16) (lb:blk.length=16):
 Calls Tryz.prog 225 #[.pointer (some ⟨B+1+1+1,0,none⟩),.pointer (some ⟨B+1,0,none⟩),.pointer (some ⟨B,0,none⟩),.pointer (some ⟨B+1+1,0,none⟩)] w fun e w'=>
  e = .returned (.int .u8 (at' blk k:Nat))∧Strm w' B b g key at_ blk (k+1)∧Outside (B+1) (B+1+1+1) w w':=by
 have h1:=h.kCell
 have h2:=h.kFree 0
 have h3:w.cell? ⟨B+1+1,k,none⟩=some (.int .u8 (at' blk k:Nat)):=h.bc.cell (by omega)
 have h4:((k:Int)==16)=false:=by rw[beq_eq_false_iff_ne];omega
 have hki:(k:Int)<16:=by omega
 have K:=Lib.hid (h.kSet (k+1))
 have O:=Lib.hid ((Outside.refl (B+1) (B+1+1+1) w).setCell (c:=B+1+1+1) (j:=0) (by omega) (by omega) (.int .i64 ((k+1:Nat):Int)))
 clear h
 generalize at' blk k=x at *
 go_enter Tryz.func225,Tryz.ntmps225
 go_wp2
 go_ret
 exact⟨rfl,K.out,O.out⟩
set_option maxRecDepth 100000 in
theorem strm_new (B b g:Nat) (key at_ blk:List Nat) (w:World) (h:Strm w B b g key at_ blk 16) (hk:KeyOk key) (hb:Byt key) (ha:Byt at_) (la:at_.length=16) (lb:blk.length=16):
 Calls Tryz.prog 225 #[.pointer (some ⟨B+1+1+1,0,none⟩),.pointer (some ⟨B+1,0,none⟩),.pointer (some ⟨B,0,none⟩),.pointer (some ⟨B+1+1,0,none⟩)] w fun e w'=>
  e = .returned (.int .u8 (at' (encA key (nextC at_)) 0:Nat))∧Strm w' B b g key (nextC at_) (encA key (nextC at_)) 1∧Outside (B+1) (B+1+1+1) w w':=by
 have h1:=h.kCell
 have hnx:=next_any at_ ha la
 have hen:=fun W hC=>encC_any b g (key.length/4) key (nextC at_) W hk.four hk.len hb (nextC_byt ha) (nextC_len la) hC
 have ln:=nextC_len la
 have le:=encA_len key (nextC at_)
 rw[show encK (wordsAll (key.length/4) key) (key.length/4+6) (nextC at_)=encA key (nextC at_) from rfl] at hen
 have HNX:=Lib.hid hnx
 have HEN:=Lib.hid hen
 have H:=Lib.hid h
 have LA:=Lib.hid la
 have LN:=Lib.hid ln
 have LE:=Lib.hid le
 have LB:=Lib.hid lb
 clear hnx hen h la ln le lb
 generalize nextC at_=nx at *
 generalize encA key nx=en at *
 go_enter Tryz.func225,Tryz.ntmps225
 go_wp2_with (refine wpList_loadB (l:=at_) (o:=⟨some 7,_,_,_,_,_⟩) rfl 263 (.tmp 1) rfl (B+1) rfl (t:=263) ?_ Tryz.underlying263 (by rw[LA.out];exact sz16) ?_;exact H.out.ac)
 refine (HNX.out _).mono ?_
 rintro e w1 ⟨rfl,hb1⟩
 have R1:Hid (Strm w1 B b g key at_ blk 16):=Lib.hid (H.out.call hb1)
 have R2:Hid (Outside (B+1) (B+1+1+1) w w1):=Lib.hid ((Outside.refl _ _ w).call hb1)
 clear hb1 h1 HNX H
 go_wp2_with (first
  | (refine wpList_storeN (l:=at_) (o:=⟨none,.store _ (.tmp 1) (.tmp 8),_,_,_,_⟩) rfl 263 (.tmp 1) (.tmp 8) rfl (B+1) rfl nx rfl (t:=263) ?_ (by rw[LN.out];exact sz16) (by rw[LA.out,LN.out]) ?_
     · exact R1.out.ac
     intro w2 hw2
     have S1:Hid (Strm w2 B b g key nx blk 16):=Lib.hid (by rw[hw2];exact R1.out.atRow nx)
     have S2:Hid (Outside (B+1) (B+1+1+1) w w2):=Lib.hid (by rw[hw2];exact R2.out.row (by omega) (by omega) _)
     have hcc:=S1.out.cCell
     clear hw2)
  | (refine wpList_loadB (l:=nx) (o:=⟨some 11,_,_,_,_,_⟩) rfl 263 (.tmp 1) rfl (B+1) rfl (t:=263) ?_ Tryz.underlying263 (by rw[LN.out];exact sz16) ?_
     · exact S1.out.ac))
 refine (HEN.out _ S1.out.cip).mono ?_
 rintro e w3 ⟨rfl,hb3⟩
 have T1:Hid (Strm w3 B b g key nx blk 16):=Lib.hid (S1.out.call hb3)
 have T2:Hid (Outside (B+1) (B+1+1+1) w w3):=Lib.hid (S2.out.call hb3)
 clear hb3 hcc S1 S2 R1 R2 HEN
 go_wp2_with (refine wpList_storeN (l:=blk) (o:=⟨none,.store _ (.tmp 3) (.tmp 13),_,_,_,_⟩) rfl 263 (.tmp 3) (.tmp 13) rfl (B+1+1) rfl en rfl (t:=263) ?_ (by rw[LE.out];exact sz16) (by rw[LB.out,LE.out]) ?_
              · exact T1.out.bc
              intro w4 hw4
              have U1:Hid (Strm w4 B b g key nx en 16):=Lib.hid (by rw[hw4];exact T1.out.blkRow en)
              have U2:Hid (Outside (B+1) (B+1+1+1) w w4):=Lib.hid (by rw[hw4];exact T2.out.row (by omega) (by omega) _)
              have hk1:=U1.out.kCell
              have hk2:=U1.out.kFree 0
              have hb4:w4.cell? ⟨B+1+1,0,none⟩=some (.int .u8 (at' en 0:Nat)):=U1.out.bc.cell (by rw[LE.out];decide)
              clear hw4)
 go_ret
 exact⟨rfl,(U1.out.kSet 0).kSet 1,(U2.out.setCell (c:=B+1+1+1) (j:=0) (by omega) (by omega) _).setCell (c:=B+1+1+1) (j:=0) (by omega) (by omega) _⟩
set_option maxRecDepth 100000 in
theorem stream_any (b g:Nat) (key at_:List Nat) (w:World) (hC:CipK w b g (key.length/4) key) (hbg:b<g) (la:at_.length=16):
 Calls Tryz.prog 188 #[.pointer (some ⟨g,0,none⟩),.agg (bts at_)] w fun e w'=>
  e = .returned (.func (.func 225) #[] #[.pointer (some ⟨w.heap.size+1+1+1,0,none⟩),.pointer (some ⟨w.heap.size+1,0,none⟩),.pointer (some ⟨w.heap.size,0,none⟩),.pointer (some ⟨w.heap.size+1+1,0,none⟩)])∧
  Strm w' w.heap.size b g key at_ z16 16∧Below w.heap.size w w':=by
 have hmf:∀(fn:Fn) (first cap:Array Value) (w:World),(Instr.makeFunc fn first cap).run Tryz.prog w = .ok (.func fn first cap) w:=fun _ _ _ _=>rfl
 have hg:g<w.heap.size:=hC.cip.lt
 have hb1:Below w.heap.size w ((((w.alloc (.cells #[.pointer (some ⟨g,0,none⟩)] 260)).alloc (.cells (bts at_) 263)).alloc (.cells (bts z16) 263)).alloc (.cells #[.int .i64 16] 3)):=
  ((((Below.refl _ _).alloc (Nat.le_refl _) _).alloc (Nat.le_of_lt (by simp)) _).alloc (by simp;omega) _).alloc (by simp;omega) _
 have hst:Strm ((((w.alloc (.cells #[.pointer (some ⟨g,0,none⟩)] 260)).alloc (.cells (bts at_) 263)).alloc (.cells (bts z16) 263)).alloc (.cells #[.int .i64 16] 3)) w.heap.size b g key at_ z16 16:=by
  refine⟨?_,((Bk.newAt _ at_ (by simp)).alloc _).alloc _,(Bk.newAt _ z16 (by simp)).alloc _,?_,hC.ab hb1,hg,hbg⟩
  · rw[Below.heap_alloc _ _ _ (by simp;omega),Below.heap_alloc _ _ _ (by simp;omega),Below.heap_alloc _ _ _ (by simp)]
    exact heap_alloc_new w _
  · have e:w.heap.size+1+1+1=(((w.alloc (.cells #[.pointer (some ⟨g,0,none⟩)] 260)).alloc (.cells (bts at_) 263)).alloc (.cells (bts z16) 263)).heap.size:=by simp
    rw[e]
    exact heap_alloc_new _ _
 have H1:=Lib.hid hb1
 have H2:=Lib.hid hst
 clear hb1 hst hC la hg
 go_enter Tryz.func188,Tryz.ntmps188
 go_wp2
 go_ret
 exact⟨rfl,H2.out,H1.out⟩
def atS (first:List Nat) (i:Nat):List Nat:=nextN first ((i+15)/16)
def blkS (key first:List Nat) (i:Nat):List Nat:=if i=0 then z16 else encA key (atS first i)
def kS (i:Nat):Nat:=if i=0 then 16 else (i-1)%16+1
theorem kS_new {i:Nat} (h:i%16=0):kS i=16:=by unfold kS;split <;> omega
theorem kS_more {i:Nat} (h:i%16≠0):kS i=i%16:=by unfold kS;split <;> omega
theorem kS_next (i:Nat):kS (i+1)=i%16+1:=by unfold kS;rw[if_neg (by omega)];rfl
theorem atS_new {first:List Nat} {i:Nat} (h:i%16=0):atS first (i+1)=nextC (atS first i):=by
 unfold atS
 rw[show (i+1+15)/16=(i+15)/16+1 by omega]
 rfl
theorem atS_more {first:List Nat} {i:Nat} (h:i%16≠0):atS first (i+1)=atS first i:=by
 unfold atS
 rw[show (i+1+15)/16=(i+15)/16 by omega]
theorem atS_next (first:List Nat) (i:Nat):atS first (i+1)=nextN first (i/16+1):=by
 unfold atS
 rw[show (i+1+15)/16=i/16+1 by omega]
theorem blkS_next (key first:List Nat) (i:Nat):blkS key first (i+1)=encA key (atS first (i+1)):=if_neg (by omega)
theorem blkS_len (key first:List Nat) (i:Nat):(blkS key first i).length=16:=by unfold blkS;split;rfl;exact encA_len _ _
theorem ksB_eq (key first:List Nat) (i:Nat):ksB key first i=at' (blkS key first (i+1)) (i%16):=by rw[blkS_next,atS_next];rfl
theorem strm_at (B b g i:Nat) (key first:List Nat) (w:World) (h:Strm w B b g key (atS first i) (blkS key first i) (kS i)) (hk:KeyOk key) (hb:Byt key) (hf:Byt first) (lf:first.length=16):
 Calls Tryz.prog 225 #[.pointer (some ⟨B+1+1+1,0,none⟩),.pointer (some ⟨B+1,0,none⟩),.pointer (some ⟨B,0,none⟩),.pointer (some ⟨B+1+1,0,none⟩)] w fun e w'=>
  e = .returned (.int .u8 (ksB key first i:Nat))∧Strm w' B b g key (atS first (i+1)) (blkS key first (i+1)) (kS (i+1))∧Outside (B+1) (B+1+1+1) w w':=by
 by_cases hi:i%16=0
 · rw[kS_new hi] at h
   have:=strm_new B b g key (atS first i) (blkS key first i) w h hk hb (nextN_byt hf _) (nextN_len lf _) (blkS_len _ _ _)
   rw[ksB_eq,blkS_next,atS_new hi,kS_next,hi]
   exact this
 · rw[kS_more hi] at h
   have:=strm_more B b g (i%16) key (atS first i) (blkS key first i) w h (by omega) (blkS_len _ _ _)
   have e:blkS key first (i+1)=blkS key first i:=by
    rw[blkS_next,atS_more hi]
    exact (if_neg (by intro h0;rw[h0] at hi;exact hi rfl)).symm
   rw[ksB_eq,e,atS_more hi,kS_next]
   exact this
def OutB (w:World) (l:List Nat) (err:Nat) (e:Ending) (w':World):Prop:=
 ∃v,e = .returned (.tuple #[v,.int .i64 (err:Int)])∧OwB w' w.heap.size v l∧Below w.heap.size w w'
theorem OutB.refused {w w':World} (err:Nat) (hb:Below w.heap.size w w'):OutB w [] err (.returned (.tuple #[.slice none 0 0,.int .i64 (err:Int)])) w':=⟨_,rfl,OwB.nil _ _,hb⟩
theorem below_tr {B:Nat} {w0 w w':World} (h:Below B w0 w) (hb:Below w.heap.size w w') (hB:B≤w.heap.size):Below B w0 w':=h.trans (hb.mono hB)
theorem Strm.cellOut {w:World} {B b g k c j:Nat} {key at_ blk:List Nat} (h:Strm w B b g key at_ blk k) (hc:B+1+1+1<c) (u:Value):Strm (w.setCell ⟨c,j,none⟩ u) B b g key at_ blk k:=
 have h1:=h.lt
 have h2:=h.bg
 ⟨(Below.heap_setCell w ⟨c,j,none⟩ u B (by show B≠c;omega)).trans h.cc,h.ac.far (by omega) _,h.bc.far (by omega) _,(Below.heap_setCell w ⟨c,j,none⟩ u _ (by show B+1+1+1≠c;omega)).trans h.kc,h.cip.cellFar (by omega) (by omega) _,h.lt,h.bg⟩
structure CrSt (B0 B b g go_:Nat) (w0 w:World) (key nonce text:List Nat) (i:Nat):Prop where
 st:Strm w B b g key (atS (firstC nonce) i) (blkS key (firstC nonce) i) (kS i)
 out:Bk w go_ 5 (upd (at' (cryptA key nonce text)) (zeros text.length) i)
 below:Below B0 w0 w
 far:B+1+1+1<go_
 lo:B0≤B
set_option maxRecDepth 100000 in
theorem crypt_ok (kA nA tA:Option Addr) (kn kc nc tn tc:Nat) (key nonce text:List Nat) (w:World) (hK:KeyOk key) (ik:IsB w kA kn kc key) (inn:IsB w nA 12 nc nonce) (it:IsB w tA tn tc text) (ht:tn≤65536):
 Calls Tryz.prog 169 #[.slice kA kn kc,.slice nA 12 nc,.slice tA tn tc] w (OutB w (cryptA key nonce text) 0):=by
 have lk:=ik.len
 have ln:=inn.len
 have lt:=it.len
 have hnew:=new_any (key.length/4) kn key kA kc w hK.four (by rw[←lk];exact hK.len) ik
 have hmk:∀W:World,(Instr.makeSlice 41 (.int .i64 (tn:Int)) (.int .i64 (tn:Int))).run Tryz.prog W = .ok (.slice (some ⟨W.heap.size,0,none⟩) tn tn) (W.alloc (.cells (bts (zeros tn)) 5)):=fun W=>make_u8 tn tn (Nat.le_refl _) (by omega) W
 have hd:decide (65536<(tn:Int))=false:=by simp;omega
 have lf:(firstC nonce).length=16:=firstC_len ln
 have bf:Byt (firstC nonce):=firstC_byt inn.2
 have IK:=Lib.hid ik
 have IN:=Lib.hid inn
 have IT:=Lib.hid it
 have HN:=Lib.hid hnew
 have HK:=Lib.hid hK
 have LF:=Lib.hid lf
 have LT:=Lib.hid lt
 have HT:=Lib.hid ht
 clear ik inn it hnew hK lk ln lt lf
 go_enter Tryz.func169,Tryz.ntmps169
 go_wp2_with fail
 refine HN.out.mono ?_
 rintro e w1 ⟨b,g,rfl,hbg,hwb,hC,hb1⟩
 have R1:=Lib.hid hC
 have R2:=Lib.hid hb1
 have R3:=Lib.hid hbg
 have R4:Hid (IsB w1 nA 12 nc nonce):=Lib.hid (IN.out.ab hb1)
 clear hC hb1 hbg hwb HN
 go_wp2_with fail
 refine (first_any nA nc nonce w1 R4.out).mono ?_
 rintro e w2 ⟨rfl,hb2⟩
 have S1:Hid (CipK w2 b g (key.length/4) key):=Lib.hid (R1.out.ab hb2)
 have S2:Hid (Below w.heap.size w w2):=Lib.hid (below_tr R2.out hb2 R2.out.size)
 clear hb2 R1 R2 R4
 obtain⟨F,hF⟩:∃F,F=firstC nonce:=⟨_,rfl⟩
 rw[←hF] at LF bf
 rw[←hF]
 have HF:=Lib.hid hF
 clear hF
 go_wp2_with (first
  | (refine wpList_storeN (l:=z16) (o:=⟨none,.store _ (.tmp 10) (.tmp 26),_,_,_,_⟩) rfl 263 (.tmp 10) (.tmp 26) rfl w2.heap.size rfl F rfl (t:=263) ?_ (by rw[LF.out];exact sz16) (by rw[LF.out];rfl) ?_
     · exact Bk.newAt _ z16 rfl
     intro w3 hw3
     have T1:Hid (Bk w3 w2.heap.size 263 F):=Lib.hid (by rw[hw3];exact (show Bk (w2.alloc (.cells (bts z16) 263)) w2.heap.size 263 z16 from Bk.newAt _ z16 rfl).row _)
     have T2:Hid (Below w.heap.size w w3):=Lib.hid (by rw[hw3];exact Below.row (S2.out.alloc S2.out.size _) S2.out.size _)
     have T3:Hid (CipK w3 b g (key.length/4) key):=Lib.hid (by
      rw[hw3]
      have hlt:=S1.out.cip.lt
      have hlb:=S1.out.wd.lt
      exact (S1.out.ab ((Below.refl _ _).alloc (Nat.le_refl _) _)).rowFar (by omega) (by omega) _)
     clear hw3)
  | (refine wpList_loadB (l:=F) (o:=⟨some 35,_,_,_,_,_⟩) rfl 263 (.tmp 10) rfl w2.heap.size rfl (t:=263) ?_ Tryz.underlying263 (by rw[LF.out];exact sz16) ?_
     · exact T1.out))
 refine (stream_any b g key F w3 T3.out R3.out LF.out).mono ?_
 rintro e w4 ⟨rfl,hS,hb4⟩
 have U1:=Lib.hid hS
 have U2:Hid (Below w.heap.size w w4):=Lib.hid (below_tr T2.out hb4 T2.out.size)
 have U3:Hid (w.heap.size≤w3.heap.size):=Lib.hid T2.out.size
 have U4:Hid (w3.heap.size+1+1+1<w4.heap.size):=Lib.hid (lt_of_block hS.kc)
 clear hS hb4 S1 S2 T1 T2 T3
 generalize w3.heap.size=B at *
 go_wp2_with fail
 have V0:Hid (CrSt w.heap.size B b g w4.heap.size w (w4.alloc (.cells (bts (zeros tn)) 5)) key nonce text 0):=Lib.hid (by
  refine⟨?_,?_,U2.out.alloc U2.out.size _,U4.out,U3.out⟩
  · rw[←HF.out]
    exact U1.out.call ((Below.refl _ _).alloc (Nat.le_refl _) _)
  · rw[upd_zero,LT.out]
    exact Bk.newAt _ (zeros tn) rfl)
 have hgo:B+1+1+1<w4.heap.size:=U4.out
 have HGO:=Lib.hid hgo
 clear U1 U2 U3 U4 hgo hmk hd
 generalize w4.heap.size=go_ at *
 go_loopw [13,14,42] (fun _ _ j wr=>∃i:Nat,i≤tn∧j = .int .i64 i∧CrSt w.heap.size B b g go_ w wr key nonce text i) (fun _ _ j _=>tn-(intOf j).toNat)
 case atStart=>exact⟨0,Nat.zero_le _,rfl,V0.out⟩
 case round=>
  obtain⟨i,hi,rfl,hst⟩:=hrel
  by_cases hlt:i<tn
  · have hii:(i:Int)<(tn:Int):=by omega
    obtain⟨x,rfl,hxb,hxc⟩:=IT.out.cell (by omega)
    have hcl:wr.cell? (x.add i)=some (.int .u8 (at' text i:Nat)):=(hst.below.cell (by rw[add_block];exact hxb)).trans (hxc i hlt)
    have hca:=cryptA_at (key:=key) (nonce:=nonce) (text:=text) (i:=i) (by rw[LT.out];exact hlt)
    have hks:=ksB_lt HK.out IK.out.2 bf i
    rw[HF.out] at hks
    have hta:=IT.out.2.at' i
    have hcon:=strm_at B b g i key (firstC nonce) wr hst.st HK.out IK.out.2 (by rw[←HF.out];exact bf) (by rw[←HF.out];exact LF.out)
    generalize hksE:ksB key (firstC nonce) i=ks at *
    generalize at' text i=tx at *
    have hxo:=bits_xor_u8 tx ks hta hks
    have HST:=Lib.hid hst
    have HCA:=Lib.hid hca
    have HCON:=Lib.hid hcon
    clear hst hca hcon hksE hxc V0
    go_wp2_with fail
    refine HCON.out.mono ?_
    rintro e wq ⟨rfl,hS,hO⟩
    have hob:=hO.bk HST.out.out (.inr HST.out.far)
    have hoc:=hob.cell (k:=i) (by rw[upd_len,zeros_len,LT.out];exact hlt)
    have hof:=hob.free i
    have hon:=hob.set i (tx ^^^ ks)
    rw[←HCA.out,upd_step (at' (cryptA key nonce text)) (zeros text.length) i (by rw[zeros_len,LT.out];exact hlt),HCA.out] at hon
    generalize (upd (at' (cryptA key nonce text)) (zeros text.length) i)[i]?.getD 0=u0 at hoc
    have HNX:Hid (CrSt w.heap.size B b g go_ w (wq.setCell ⟨go_,i,none⟩ (.int .u8 ((tx ^^^ ks:Nat):Int))) key nonce text (i+1)):=Lib.hid (by
     have hfar:=HST.out.far
     have hlo:=HST.out.lo
     refine⟨?_,hon,(hO.below HST.out.below (by omega) HST.out.below.size).setCell (by show w.heap.size≤go_;omega) _,hfar,hlo⟩
     exact hS.cellOut (by omega) _)
    clear hS hO hob hon HCON HST HCA
    go_wp2_with fail
    go_roundw
    case rel=>exact⟨i+1,by omega,by go_num,HNX.out⟩
    case measure=>simp[intOf];omega
  · obtain rfl:i=tn:=by omega
    have hb:=hst.out
    have hall:=upd_all (at' (cryptA key nonce text)) (zeros text.length)
    rw[zeros_len,LT.out] at hall
    rw[LT.out,hall] at hb
    have HB:Hid (Bk wr go_ 5 (cryptA key nonce text)):=Lib.hid (by
     have e:(List.range i).map (at' (cryptA key nonce text))=cryptA key nonce text:=by
      refine at'_ext (by simp[cryptA_len,LT.out]) fun j hj=>?_
      have hj:j<i:=by simpa using hj
      simp[at',hj]
     rw[e] at hb
     exact hb)
    have HL:=Lib.hid hst.below
    have hge:w.heap.size≤go_:=by have:=hst.far;have:=hst.lo;omega
    have HC:=cryptA_byt (nonce:=nonce) (text:=text) HK.out IK.out.2 IN.out.2 IT.out.2
    have HCL:(cryptA key nonce text).length=i:=by rw[cryptA_len,LT.out]
    have HGE:=Lib.hid hge
    have HCC:=Lib.hid HC
    have HLL:=Lib.hid HCL
    clear hst hb hall V0 hge HC HCL
    go_wp2_with fail
    go_ret2
    exact⟨_,rfl,OwB.ofBk HB.out HGE.out HLL.out (Nat.le_refl _) HLL.out (by have:=HT.out;omega) (List.take_of_length_le (by rw[HLL.out];exact Nat.le_refl _)) HCC.out,HL.out⟩
end Go.Proofs.YtlobgddnlnffbaaGreat
