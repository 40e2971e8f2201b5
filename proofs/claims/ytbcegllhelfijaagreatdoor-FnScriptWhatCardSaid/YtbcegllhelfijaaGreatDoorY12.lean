/-
  A part of the proof.
-/
import Derived.Test.YtbcegllhelfijaaGreatDoorY11
set_option linter.all false
set_option maxRecDepth 100000
set_option maxHeartbeats 8000000
namespace Go.Proofs.Mn
open Go Go.Conc
def extL:List Nat:=[54,74,94,111,142,202]
def chkF (v:Value)(f:Func)(i:Nat):Bool:=
 (f.name != "runtime.NumGoroutine")&&(Twn.deadB i||i==116||f.body.isSome||extL.contains i) &&
  (Twn.deadB i||i==116||(match f.body with|some c=>@okCode ⟨212,v⟩ 7 c|none=>true))
theorem jv3 (v:Value):(Tryz.prog.funcs.toList.zipIdx.all λr=>chkF v r.1 r.2)=true:=by kernel_rfl
theorem jon (v:Value){i:Nat}{f:Func}(h:Tryz.prog.funcs[i]?=some f):chkF v f i=true:=by
 have:=jv3 v;rw[List.all_eq_true]at this;exact this (f,i) (by rw[List.mem_zipIdx_iff_getElem?];simpa using h)
structure Side (P:Program):Prop where
 tables:P.toTables=Tryz.prog.toTables
 live:∀f,(f==116)=false->Twn.deadB f=false->P.funcs[f]?=Tryz.prog.funcs[f]?
 pass:∃fn,P.funcs[116]?=some fn/\(fn.name == "runtime.NumGoroutine")=false/\fn.body.isNone=false
theorem jrc:Side Tryz.prog:=⟨rfl,λ_ _ _=>rfl,Tryz.f116,Tryz.func116,by kernel_rfl,rfl⟩
theorem jlv (f:Nat)(h1:(f==116)=false)(h2:Twn.deadB f=false):tnp.funcs[f]?=Tryz.prog.funcs[f]?:=by
 rw[Twn.at];cases h:Tryz.prog.funcs[f]? with
 | none=>rfl
 | some fn=>simp only[Option.map_some,Twn.one,h2,if_neg (by simpa using h1),Bool.false_eq_true,if_false]
theorem jlu {f:Nat}{fn:Func}(h2:Twn.deadB f=true)(h1:(f==116)=false)(h:tnp.funcs[f]?=some fn):fn=Twn.dead:=by
 rw[Twn.at]at h;cases h':Tryz.prog.funcs[f]? with
 | none=>rw[h']at h;cases h
 | some fn'=>
  rw[h']at h;simp only[Option.map_some,Twn.one,h2,if_neg (by simpa using h1),if_true,Option.some.injEq]at h;exact h.symm
theorem jts:Side tnp:=⟨Twn.tables,jlv,Twn.pass,Twn.func116,by kernel_rfl,rfl⟩
section
variable [Atom]{P:Program}{X:Nat->Prop}
theorem jp6:Extern.findNext Twn.dead=none:=by kernel_rfl
theorem jp5:Extern.find Twn.dead=none:=by kernel_rfl
def callBody (f:FuncId)(args:Array Value):Option Func->Sem Next
 | none=>stuck "call: no such function"
 | some fn=>if fn.name == "runtime.NumGoroutine" then pure .numGoroutine
   else if fn.body.isNone then(do
    mark (.extern f)
    if let some e:=Extern.findNext fn then return<-e args
    match Extern.find fn with
    | some e=>pure (.value (<- e args))
    | none=>
     if fn.name.endsWith ".init"&&!fn.name.startsWith "("&&!fn.name.startsWith "gosem." then pure (.value (.tuple #[]))
     else unsupported (.extern fn.name))
   else pure (.enter f args)
theorem jir (f:FuncId)(args:Array Value):callFunc f args=program >>= λp=>callBody f args p.funcs[f]?:=by
 unfold callFunc;congr 1
theorem jb8 {P':Program}{f:FuncId}{args:Array Value}{Q:Next->Prop}(h:Cl P' P X Q (callBody f args P'.funcs[f]?) (callBody f args P.funcs[f]?)):Cl P' P X Q (callFunc f args) (callFunc f args):=by
 rw[jir];exact j12 h
theorem jp4 {f:FuncId}{Q:Next->Prop}{args:Array Value}{t:Sem Next}:Cl tnp P X Q (callBody f args (some Twn.dead)) t:=by
 unfold callBody;have n1:(Twn.dead.name == "runtime.NumGoroutine")=false:=by kernel_rfl
 have n2:Twn.dead.body.isNone=true:=rfl;have n3:(Twn.dead.name.endsWith ".init"&&!Twn.dead.name.startsWith "("&&!Twn.dead.name.startsWith "gosem.")=false:=by kernel_rfl
 simp only[n1,n2,n3,jp6,jp5,Bool.false_eq_true,if_false,if_true];exact .deadM (.inl ⟨_,rfl,λg e=>by cases e⟩)
end
theorem jgq (name:String):(Tryz.t212.methods.find? λm=>m.name==name)=if("Error"==name)=true then some { name := "Error",sig:=51,path:=#[],func:=some (211,true) }else none:=by
 simp[Tryz.t212]
theorem Twn.at_dead {i:Nat}{f:Func}(h:Tryz.prog.funcs[i]?=some f)(h1:(i==116)=false)(h2:Twn.deadB i=true):tnp.funcs[i]?=some Twn.dead:=by
 rw[Twn.at,h];simp only[Option.map_some,Twn.one,h2,if_neg (by simpa using h1),if_true]
theorem jsw [Atom]{P:Program}{X:Nat->Prop}{f:FuncId}(h:tnp.funcs[f]?=some Twn.dead):DeadF tnp P X f:=λQ args=>jb8 (by rw[h];exact jp4)
theorem jue (v:Value):(Tryz.prog.types.toList.all λi=>match i.zero with|some z=>@plainVal ⟨212,v⟩ 8 z|none=>true)=true:=by kernel_rfl
theorem jv6:(Tryz.prog.cutTypes.toList.all λr=>r.2 != 212)=true:=by kernel_rfl
section
variable {P:Program}{X:Nat->Prop}
theorem jqw (S:Side P)(v:Value)(high:∀b,X b->P.globals.size+1<=b):@Pair ⟨212,v⟩ tnp P X:=by
 letI A:Atom:=⟨212,v⟩
 have hT:tnp.toTables=P.toTables:=Twn.tables.trans S.tables.symm;have hu:P.underlying 212=some (.pointer 235):=by rw[j2o S.tables];exact Tryz.underlying212
 have hi:P.info? 212=some Tryz.t212:=by rw[j7b S.tables];kernel_rfl
 have hi':tnp.info? 212=some Tryz.t212:=by rw[j7b Twn.tables];kernel_rfl
 have hs:∀(Q:Program),Q.toTables=Tryz.prog.toTables->Q.info? 235=some Tryz.t235:=λQ hQ=>by rw[j7b hQ];kernel_rfl
 have hu':tnp.underlying 212=some (.pointer 235):=by rw[j2o Twn.tables];exact Tryz.underlying212
 have cl_und:Cl tnp P X (λd=>d=.pointer 235) (underlying 212) (underlying 212):=by
  unfold underlying;refine j12 ?_;rw[hu,hu'];exact j7 rfl
 have cl_ti:Cl tnp P X (λd=>d=Tryz.t212) (typeInfo 212) (typeInfo 212):=by
  unfold typeInfo;refine j12 ?_;rw[hi,hi'];exact j7 rfl
 have cl_size:Cl tnp P X (λn=>n=1) (sizeOf 235) (sizeOf 235):=by
  unfold sizeOf typeInfo;refine Cl.bind (Q:=λi=>i=Tryz.t235) (j12 ?_) λi hi=>j7 (by subst hi;rfl);rw[hs P S.tables,hs tnp Twn.tables];exact j7 rfl
 refine⟨hT,high,λt i z h1 h2=>?_,?_,λd=>?_,λn name=>?_,λn name=>?_⟩
 ·rw[j7b S.tables]at h1;refine jq4 (λt i z h1 h2=>?_) h1 h2;have h3:=List.all_eq_true.1 (jue v) i (by simpa using Array.mem_of_getElem? h1);rw[h2]at h3;exact jcf 8 z h3
 ·have:P.rt=Tryz.prog.rt:=by rw[show P.rt=P.toTables.rt from rfl,S.tables]
  rw[this,Tryz.rt_eq];refine⟨?_,?_,?_,?_,?_,?_⟩<;>(intro h;revert h;show¬((_:Nat)=212);decide)
 ·show Cl tnp P X _ (Op.equalIn d 212 v v) (Op.equalIn d 212 v v);cases d with
  | zero=>exact jj
  | succ d=>
   unfold Op.equalIn;refine cl_und.bind λdd hdd=>?_;subst hdd;cases v with
   | pointer a=>
    cases a with
    | none=>exact j7 trivial
    | some a=>
     refine cl_size.bind λn hn=>?_;subst hn;rw[if_pos (by decide)];unfold sameAddr;simp only[beq_self_eq_true,if_true];exact j7 trivial
   | _=>exact j8
 ·show Cl tnp P X (λr=>DeadF tnp P X r.1) (method n 212 v name) (method n 212 v name);cases n with
  | zero=>exact jj
  | succ n=>
   unfold method;refine cl_ti.bind λi hi=>?_;subst hi;rw[jgq];by_cases hn:("Error"==name)=true
   ·rw[if_pos hn];refine Cl.bind (Q:=λr=>r=(212,Place.val v)) (j7 rfl) λr hr=>?_;subst hr;refine Cl.bind (Q:=λr=>True) ?_ λr _=>j7 (jsw (by exact Twn.at_dead (i:=211) Tryz.func211 rfl rfl));unfold receiverAt;refine cl_und.bind λdd hdd=>?_;subst hdd;exact j7 trivial
   ·rw[if_neg hn];exact j8
 ·show Cl tnp P X (λ_=>True) (nilAhead n 212 v name) (nilAhead n 212 v name);cases n with
  | zero=>exact j7 trivial
  | succ n=>
   unfold nilAhead;refine cl_ti.bind λi hi=>?_;subst hi;rw[jgq];by_cases hn:("Error"==name)=true
   ·rw[if_pos hn];refine Cl.bind (Q:=λr=>r=.ok (212,some v)) (j7 rfl) λr hr=>?_;subst hr;exact j7 trivial
   ·rw[if_neg hn];exact j8
theorem jmw:Extern.findNext Tryz.f54=none:=by kernel_rfl
theorem jmt:Extern.find Tryz.f54=some Extern.AbiNoEscape.same:=by kernel_rfl
theorem jmx:Extern.findNext Tryz.f74=none:=by kernel_rfl
theorem jmu:Extern.find Tryz.f74=some Extern.BytealgCount.count:=by kernel_rfl
theorem jmy:Extern.findNext Tryz.f94=none:=by kernel_rfl
theorem jmv:Extern.find Tryz.f94=some Extern.BytealgIndex.index:=by kernel_rfl
theorem jjd:Extern.findNext Tryz.f111=none:=by kernel_rfl
theorem jja:Extern.find Tryz.f111=some Extern.BytealgIndexByte.indexByte:=by kernel_rfl
theorem jje:Extern.findNext Tryz.f142=none:=by kernel_rfl
theorem jjb:Extern.find Tryz.f142=some Extern.ReflectliteType.typeOf:=by kernel_rfl
theorem jjf:Extern.findNext Tryz.f202=none:=by kernel_rfl
theorem jjc:Extern.find Tryz.f202=some (Extern.ReflectliteType.method (λt=>do Extern.Rtype.noPackHeld "Comparable" t;pure (.bool (<- typeInfo t).comparable))):=by kernel_rfl
theorem j6e [Atom]{P':Program}{α:Type}{Q:α->Prop}{m:Mark}{g g':Unit->Sem α}(hm:m=.noRoom\/∃f,m=.extern f)(h:Cl P' P X Q (g ()) (g' ())):Cl P' P X Q (mark m >>= g) (mark m >>= g'):=.mark hm h
theorem jx7 {i:Nat}{f:Func}(v:Value)(h:Tryz.prog.funcs[i]?=some f)(h1:(i==116)=false)(h2:Twn.deadB i=false)(h3:f.body.isNone=true):i∈extL:=by
 have:=jon v h;have hb:f.body.isSome=false:=by cases hh:f.body<;>simp_all
 simp only[chkF,h1,h2,hb,Bool.and_eq_true,Bool.or_false,Bool.false_or]at this;simpa using this.1.2
theorem jv2 (S:Side P)(v:Value)(high:∀b,X b->P.globals.size+1<=b)(f:FuncId)(args:Array Value):letI:Atom:=⟨212,v⟩;(∀v∈args,CV X v)->Cl tnp P X (CN tnp P X 116) (callFunc f args) (callFunc f args):=by
 letI A:Atom:=⟨212,v⟩
 intro ha;have H:Pair tnp P X:=jqw S v high;have hcut:∀r∈P.cutTypes,r.2≠Atom.t:=λr hr=>by
  have e:P.cutTypes=Tryz.prog.cutTypes:=by rw[show P.cutTypes=P.toTables.cutTypes from rfl,S.tables]
  rw[e]at hr;have:=List.all_eq_true.1 jv6 r (by simpa using hr);show¬(r.2=212);simpa using this
 refine jb8 ?_;cases h1:(f==116)with
 | true=>
  obtain rfl:f=116:=by simpa using h1
  obtain⟨fn,e1,e2,e3⟩:=S.pass;rw[Twn.func116,e1];have n1:(Twn.pass.name == "runtime.NumGoroutine")=false:=by kernel_rfl
  have n2:Twn.pass.body.isNone=false:=rfl;simp only[callBody,n1,n2,e2,e3,Bool.false_eq_true,if_false];exact j7 ⟨ha,.inr rfl⟩
 | false=>
  cases h2:Twn.deadB f with
  | true=>
   cases h3:tnp.funcs[f]? with
   | none=>exact j8
   | some fn=>
    obtain rfl:=jlu h2 h1 h3;exact jp4
  | false=>
   have e1:=jlv f h1 h2;have e2:=S.live f h1 h2;rw[e1,e2];cases h3:Tryz.prog.funcs[f]? with
   | none=>exact j8
   | some fn=>
    have hc:=jon v h3;simp only[chkF,h1,h2,Bool.and_eq_true,bne_iff_ne,ne_eq,Bool.false_or]at hc;have hn:(fn.name == "runtime.NumGoroutine")=false:=by simpa using hc.1.1
    unfold callBody;simp only[hn,Bool.false_eq_true,if_false];cases hb:fn.body.isNone with
    | false=>
     simp only[Bool.false_eq_true,if_false];refine j7 ⟨ha,.inl ⟨by simpa using h1,by rw[e1,e2],fn,by rw[e2,h3],?_⟩⟩;cases hh:fn.body<;>simp_all
    | true=>
     simp only[if_true];have hm:=jx7 v h3 h1 h2 hb;simp only[extL,List.mem_cons,List.not_mem_nil,or_false]at hm;clear h1 h2 e1 e2 hc hn hb;rcases hm with rfl|rfl|rfl|rfl|rfl|rfl
     ·rw[Tryz.func54]at h3;obtain rfl:=Option.some.inj h3;refine j6e (.inr ⟨_,rfl⟩) ?_;simp only[jmw,jmt];exact j19 (jwe ha)
     ·rw[Tryz.func74]at h3;obtain rfl:=Option.some.inj h3;refine j6e (.inr ⟨_,rfl⟩) ?_;simp only[jmx,jmu];exact j19 (juc ha)
     ·rw[Tryz.func94]at h3;obtain rfl:=Option.some.inj h3;refine j6e (.inr ⟨_,rfl⟩) ?_;simp only[jmy,jmv];exact j19 (jud H ha)
     ·rw[Tryz.func111]at h3;obtain rfl:=Option.some.inj h3;refine j6e (.inr ⟨_,rfl⟩) ?_;simp only[jjd,jja];exact j19 (jik ha)
     ·rw[Tryz.func142]at h3;obtain rfl:=Option.some.inj h3;refine j6e (.inr ⟨_,rfl⟩) ?_;simp only[jje,jjb];exact j19 (js9 H hcut)
     ·rw[Tryz.func202]at h3;obtain rfl:=Option.some.inj h3;refine j6e (.inr ⟨_,rfl⟩) ?_;simp only[jjf,jjc];exact j19 (jg1 H)
theorem jrz (S:Side P)(hg:P.globals.size=7)(v:Value)(high:∀b,X b->P.globals.size+1<=b):@Twin ⟨212,v⟩ tnp P X 116:=by
 letI A:Atom:=⟨212,v⟩
 refine{ toPair:=jqw S v high,call:=λf args ha=>jv2 S v high f args ha,code:=λf fn c hf he h hc=>?_ };have h1:(f==116)=false:=by simpa using hf
 cases h2:Twn.deadB f with
 | true=>
  rw[<- he]at h;obtain rfl:=jlu h2 h1 h;cases hc
 | false=>
  rw[S.live f h1 h2]at h;have:=jon v h;simp only[chkF,h1,h2,hc,Bool.and_eq_true,Bool.false_or]at this;rw[hg];exact this.2
theorem js0 (v:Value):letI:Atom:=⟨212,v⟩;∀X:Nat->Prop,(∀b,X b->Tryz.prog.globals.size+1<=b)->Twin tnp Tryz.prog X 116:=λ_ h=>jrz jrc Tryz.globals_size v h
theorem jua (v:Value):letI:Atom:=⟨212,v⟩;∀X:Nat->Prop,(∀b,X b->Tryz.prog.globals.size+1<=b)->Twin tnp tnp X 116:=λ_ h=>jrz jts (by rw[show tnp.globals=tnp.toTables.globals from rfl,Twn.tables];exact Tryz.globals_size) v (by rw[show tnp.globals=tnp.toTables.globals from rfl,Twn.tables];exact h)
theorem passOk (v:Value):letI:Atom:=⟨212,v⟩;PassOk tnp 116:=⟨Twn.pass,Twn.passBody,Twn.func116,rfl,by kernel_rfl⟩
end
end Go.Proofs.Mn
