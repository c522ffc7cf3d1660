/-
  Parts of the proof, joined.
-/
import Derived.Test.YtlobgddnlnffbaaGreatBeb
import Derived.Test.YtlobgddnlnffbaaGreatBda
import Derived.JoinedOf
namespace Go.Proofs.YtlobgddnlnffbaaGreat
set_option maxHeartbeats 4000000
open Go.RowKit
set_option linter.unusedVariables false
set_option linter.unusedSimpArgs false
set_option maxRecDepth 100000 in
theorem counts_walk (kA:Option Addr) (kn kc:Nat) (zk:List Int) (fA:Option Addr) (N fc:Nat) (fl:List FArg) (cut:Int) (mA:Option Addr) (mn mc:Nat) (zm:List Int) (w:World) (hk0:IsRow .u8 w kA kn kc zk) (hf0:FsB w fA N fc fl) (hcut:(Lit.int .i64 cut).wf=true) (hm0:IsRow .u8 w mA mn mc zm):
 Calls Tryz.prog 5 #[.slice kA kn kc,.slice fA N fc,.int .i64 cut,.slice mA mn mc] w fun e w'=>e = .returned (.bool true)∧Below w.heap.size w w':=by
 obtain⟨key,rfl,hkb⟩:=byt_of_row hk0
 obtain⟨mk,rfl,hmb⟩:=byt_of_row hm0
 have IK:Hid (IsB w kA kn kc key):=Lib.hid ⟨hk0,hkb⟩
 have IM:Hid (IsB w mA mn mc mk):=Lib.hid ⟨hm0,hmb⟩
 have IF:=Lib.hid hf0
 clear hk0 hm0 hkb hmb hf0
 have LN:Hid (key.length=kn):=Lib.hid IK.out.len
 by_cases h12:12<N
 · have h12i:(12:Int)<(N:Int):=by omega
   clear h12
   go_enter Tryz.func5,Tryz.ntmps5
   go_wp2_with fail
   refine (known20_any w).mono ?_
   rintro e w1 ⟨rfl,hb⟩
   have B1:=Lib.hid hb
   clear hb
   go_wp2_with fail
   go_ret
   exact⟨rfl,B1.out⟩
 have h12i:¬(12:Int)<(N:Int):=by omega
 have H12:=Lib.hid h12
 clear h12
 by_cases hko:kn=16∨kn=32
 · exact counts_key kA kn kc key fA N fc fl cut mA mn mc mk w IK IM IF hcut H12 hko
 · have n16:¬(kn:Int)=16:=by omega
   have n32:¬(kn:Int)=32:=by omega
   have m16:((kn:Int)==16)=false:=beq_eq_false_iff_ne.2 n16
   have m32:((kn:Int)==32)=false:=beq_eq_false_iff_ne.2 n32
   have b16:((kn:Int) != 16)=true:=by rw[bne,m16];rfl
   have b32:((kn:Int) != 32)=true:=by rw[bne,m32];rfl
   go_enter Tryz.func5,Tryz.ntmps5
   clear hko
   go_wp2_with fail
   refine (known20_any w).mono ?_
   rintro e w1 ⟨rfl,hb⟩
   have B1:=Lib.hid hb
   clear hb
   go_wp2_with fail
   go_ret
   exact⟨rfl,B1.out⟩
open Go.RowKit Go.ChangeShapes Go.WideShapes
set_option maxRecDepth 100000 in
theorem ccounts_walk (kA:Option Addr) (kn kc:Nat) (zk:List Int) (v:Value) (cut:Int) (mA:Option Addr) (mn mc:Nat) (zm:List Int) (w:World) (hk0:IsRow .u8 w kA kn kc zk) (_:kc*1≤140737488351232) (hk:∃base,Value.okWide Tryz.prog w .any base 58 v) {H:Type} {enc:TypeId×Value→H} {d:DataW H} {p:List MemPlace} (hd:DataW.Trod enc Tryz.prog w 0 (fun _=>true) true 58 v d p) (hp:∀x∈p,x.block<w.heap.size)
 (hcut:(Lit.int .i64 cut).wf=true) (hm0:IsRow .u8 w mA mn mc zm) (_:mc*1≤140737488351232):
 Calls Tryz.prog 5 #[.slice kA kn kc,v,.int .i64 cut,.slice mA mn mc] w fun e w'=>e = .returned (.bool true)∧Below w.heap.size w w':=by
 obtain⟨base,hk⟩:=hk
 obtain⟨A,n,c,l,rfl,hf⟩:=open_fills hk hd hp
 exact counts_walk kA kn kc zk A n c l cut mA mn mc zm w hk0 hf hcut hm0
open Go.ChangeShapes Go.WideShapes Go.ChangeAt Go.RowKit
theorem make_of {P:Program} {l:List Char} (h:P.initOrder=String.ofList l) (hw:(match behindMainWord (wordsSigns l) with | c::_=>!(c == "gc".toList||c == "spec".toList)&&c == "cut".toList | []=>false)=true):P.make=some .cut:=by
 unfold Program.make
 rw[h,String.toList_ofList]
 revert hw
 generalize behindMainWord (wordsSigns l)=W
 cases W with
 | nil=>intro hw;cases hw
 | cons c r=>
   intro hw
   simp only[Bool.and_eq_true,Bool.not_eq_true'] at hw
   simp only[hw.1,hw.2,Bool.true_or,if_true]
   rfl
theorem lifts_of {P:Program} {l:List Char} (h:P.initOrder=String.ofList l) (hw:(!((behindMainWord (wordsSigns l)).head? == some "carried".toList)&&(stripLifts liftWords (behindMainWord (wordsSigns l))).1.isEmpty)=true):P.liftsFinal=false:=by
 unfold Program.liftsFinal Program.headLifts
 rw[h,String.toList_ofList]
 revert hw
 generalize behindMainWord (wordsSigns l)=W
 intro hw
 simp only[Bool.and_eq_true,Bool.not_eq_true',List.isEmpty_iff] at hw
 simp only[hw.1,hw.2,Bool.false_and,Bool.false_or]
 split <;> rfl
theorem enter_of {P:Program} {l:List Char} (h:P.initOrder=String.ofList l) (hw:(match behindMainWord (wordsSigns l) with | c::rest=>((stripLifts liftWords (c::rest)).2.head? == some "cut".toList&&(stripLifts liftWords (c::rest)).1.isEmpty) | []=>false)=true)
 (hl:P.laysLater=false) (hr:P.bearsReflect=false) (hd:P.doorRows=[]):P.mayEnter=true:=by
 unfold Program.mayEnter Program.doorFits
 rw[h,String.toList_ofList]
 revert hw
 generalize behindMainWord (wordsSigns l)=W
 cases W with
 | nil=>intro hw;cases hw
 | cons c r=>
   intro hw
   simp only[Bool.and_eq_true,List.isEmpty_iff] at hw
   simp only[hw.1,hw.2,hl,hr,hd]
   simp
set_option maxRecDepth 1000000 in
theorem J.make:Tryz.checked.prog.make=some .cut:=make_of rfl (by kernel_rfl)
set_option maxRecDepth 1000000 in
theorem J.lifts:Tryz.checked.prog.liftsFinal=false:=lifts_of rfl (by kernel_rfl)
set_option maxRecDepth 1000000 in
theorem J.enter:Tryz.checked.prog.mayEnter=true:=enter_of rfl (by kernel_rfl) (by kernel_rfl) (by kernel_rfl) (by kernel_rfl)
theorem joined_of {P:Program} {f:FuncId} {fn:Func} {s:ChangeSpec} {c:OpenClaim} (h1:P.mayEnter=true) (h2:P.liftsFinal=false) (h3:P.make=some .cut) (h4:c.lifted=false) (h5:c.make = .cut)
 (h:(c.wf (OpenSpec.ofChange s)&&laidOutB P&&mapsRowed P &&
   fn.params.all (P.readableRec ·)&&namedTie P c.named s.vars &&
   (c.stops==[])&&(P.stops==[])&&(c.knobs==[])&&(P.stopKnobs==[]) &&
   (c.inPlace==P.inPlace f)&&(c.unfollowed==P.unfollowed f)&&(c.recurses==P.recurses f)&&(c.named==P.varsNamed f) &&
   (c.maps==(fn.params.toList++s.plain.varTypes P).any (P.mapsRec ·))&&(c.ifaces==(fn.params.toList++s.plain.varTypes P).any (P.ifacesRec ·))&&(c.mapsOut==P.mapsAmong fn.resultTypes.toList) &&
   (c.loops==(fn.params.toList++s.plain.varTypes P).any (P.loopsFrom ·))&&(c.wideKeys==(fn.params.toList++s.plain.varTypes P++fn.resultTypes.toList).any (P.wideKeysFrom ·)) &&
   s.vars.all (P.varReadable ·)&&fn.resultTypes.all (fun t=>P.readableRec t&&decide (t<P.types.size))&&(c.ifacesOut==fn.resultTypes.toList.any (P.ifacesRec ·))&&(c.loopsOut==fn.resultTypes.toList.any (P.loopsFrom ·))&&(c.plainKeys==P.plainKeys)&&c.shortTexts.isNone&&P.stopsHeard)=true)
 (k:((c.kinds==(if c.domain.isEmpty then [] else fn.params.toList.map fun t=>match P.underlying t with | some (.int k)=>some k | _=>none))&&(c.pinned==c.pinnedBy) &&
   (c.veiled==(fn.params.toList++s.plain.varTypes P++fn.resultTypes.toList).any (P.veiledRec ·))&&c.veiledFits P fn.params.toList (fn.params.toList++s.plain.varTypes P++fn.resultTypes.toList))=true):joinedFacts P f fn s c=true:=by
 unfold joinedFacts
 rw[h,h1,h2,h3,h4,h5]
 simp only[Bool.true_and]
 simp only[Bool.and_eq_true] at k
 simp only[Bool.and_eq_true,k,and_true]
 exact⟨⟨rfl,by decide⟩,k.1.1.1⟩
end Go.Proofs.YtlobgddnlnffbaaGreat
