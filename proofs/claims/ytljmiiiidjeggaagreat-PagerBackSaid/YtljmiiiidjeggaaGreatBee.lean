/-
  Parts of the proof, joined.
-/
import Derived.Test.YtljmiiiidjeggaaGreatBda
import Derived.JoinedOf
namespace Go.Proofs.YtljmiiiidjeggaaGreat
open Go.ChangeShapes Go.WideShapes Go.ChangeAt Go.RowKit
theorem make_of {P:Program} {l:List Char} (h:P.initOrder=String.ofList l) (hw:(match behindMainWord (wordsSigns l) with | c::_=>!(c == "gc".toList||c == "spec".toList)&&c == "cut".toList | []=>false)=true):P.make=some .cut:=by
 unfold Program.make
 rw[h,String.toList_ofList]
 revert hw
 generalize behindMainWord (wordsSigns l)=W
 cases W with
 | nil=>intro hw;cases hw
 | cons c r=>
   intro hw
   simp only[Bool.and_eq_true,Bool.not_eq_true'] at hw
   simp only[hw.1,hw.2,Bool.true_or,if_true]
   rfl
theorem lifts_of {P:Program} {l:List Char} (h:P.initOrder=String.ofList l) (hw:(!((behindMainWord (wordsSigns l)).head? == some "carried".toList)&&(stripLifts liftWords (behindMainWord (wordsSigns l))).1.isEmpty)=true):P.liftsFinal=false:=by
 unfold Program.liftsFinal Program.headLifts
 rw[h,String.toList_ofList]
 revert hw
 generalize behindMainWord (wordsSigns l)=W
 intro hw
 simp only[Bool.and_eq_true,Bool.not_eq_true',List.isEmpty_iff] at hw
 simp only[hw.1,hw.2,Bool.false_and,Bool.false_or]
 split <;> rfl
theorem enter_of {P:Program} {l:List Char} (h:P.initOrder=String.ofList l) (hw:(match behindMainWord (wordsSigns l) with | c::rest=>((stripLifts liftWords (c::rest)).2.head? == some "cut".toList&&(stripLifts liftWords (c::rest)).1.isEmpty) | []=>false)=true)
 (hl:P.laysLater=false) (hr:P.bearsReflect=false) (hd:P.doorRows=[]):P.mayEnter=true:=by
 unfold Program.mayEnter Program.doorFits
 rw[h,String.toList_ofList]
 revert hw
 generalize behindMainWord (wordsSigns l)=W
 cases W with
 | nil=>intro hw;cases hw
 | cons c r=>
   intro hw
   simp only[Bool.and_eq_true,List.isEmpty_iff] at hw
   simp only[hw.1,hw.2,hl,hr,hd]
   simp
set_option maxRecDepth 1000000 in
theorem J.make:Tryz.checked.prog.make=some .cut:=make_of rfl (by kernel_rfl)
set_option maxRecDepth 1000000 in
theorem J.lifts:Tryz.checked.prog.liftsFinal=false:=lifts_of rfl (by kernel_rfl)
set_option maxRecDepth 1000000 in
theorem J.enter:Tryz.checked.prog.mayEnter=true:=enter_of rfl (by kernel_rfl) (by kernel_rfl) (by kernel_rfl) (by kernel_rfl)
theorem joined_of {P:Program} {f:FuncId} {fn:Func} {s:ChangeSpec} {c:OpenClaim} (h1:P.mayEnter=true) (h2:P.liftsFinal=false) (h3:P.make=some .cut) (h4:c.lifted=false) (h5:c.make = .cut)
 (h:(c.wf (OpenSpec.ofChange s)&&laidOutB P&&mapsRowed P &&
   fn.params.all (P.readableRec ·)&&namedTie P c.named s.vars &&
   (c.stops==[])&&(P.stops==[])&&(c.knobs==[])&&(P.stopKnobs==[]) &&
   (c.inPlace==P.inPlace f)&&(c.unfollowed==P.unfollowed f)&&(c.recurses==P.recurses f)&&(c.named==P.varsNamed f) &&
   (c.maps==(fn.params.toList++s.plain.varTypes P).any (P.mapsRec ·))&&(c.ifaces==(fn.params.toList++s.plain.varTypes P).any (P.ifacesRec ·))&&(c.mapsOut==P.mapsAmong fn.resultTypes.toList) &&
   (c.loops==(fn.params.toList++s.plain.varTypes P).any (P.loopsFrom ·))&&(c.wideKeys==(fn.params.toList++s.plain.varTypes P++fn.resultTypes.toList).any (P.wideKeysFrom ·)) &&
   s.vars.all (P.varReadable ·)&&fn.resultTypes.all (fun t=>P.readableRec t&&decide (t<P.types.size))&&(c.ifacesOut==fn.resultTypes.toList.any (P.ifacesRec ·))&&(c.loopsOut==fn.resultTypes.toList.any (P.loopsFrom ·))&&(c.plainKeys==P.plainKeys)&&c.shortTexts.isNone&&P.stopsHeard)=true)
 (k:((c.kinds==(if c.domain.isEmpty then [] else fn.params.toList.map fun t=>match P.underlying t with | some (.int k)=>some k | _=>none))&&(c.pinned==c.pinnedBy) &&
   (c.veiled==(fn.params.toList++s.plain.varTypes P++fn.resultTypes.toList).any (P.veiledRec ·))&&c.veiledFits P fn.params.toList (fn.params.toList++s.plain.varTypes P++fn.resultTypes.toList))=true):joinedFacts P f fn s c=true:=by
 unfold joinedFacts
 rw[h,h1,h2,h3,h4,h5]
 simp only[Bool.true_and]
 simp only[Bool.and_eq_true] at k
 simp only[Bool.and_eq_true,k,and_true]
 exact⟨⟨rfl,by decide⟩,k.1.1.1⟩
end Go.Proofs.YtljmiiiidjeggaaGreat
