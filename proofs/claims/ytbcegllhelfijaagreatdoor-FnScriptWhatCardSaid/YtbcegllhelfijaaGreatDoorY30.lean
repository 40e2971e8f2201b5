/-
  A part of the proof.
-/
import Derived.Test.YtbcegllhelfijaaGreatDoorRows
import Derived.Stop.LaidErr
import Derived.OpenVars
import Derived.Conc.Holds
import Derived.LaidMore
import Derived.Lay
import Derived.LaidHandle
import Derived.Stop.Joined
import Derived.LaidSub
import Derived.MakeChecks
import Derived.Conc.LeavingOf
import Derived.Test.YtbcegllhelfijaaGreatDoorY29
set_option linter.all false
set_option maxRecDepth 100000
set_option maxHeartbeats 8000000
namespace Go.Proofs.Mn
open Go Go.Conc Go.RowKit
open Go.Proofs.T (execT strB complete BytesAt)
def drawD (f:Nat):Bool:=f==12||f==17||f==18||f==19||f==20||f==30||f==31
noncomputable def okFn (f:Nat):Bool:=match Tryz.prog.funcs[f]? with
 | some fn=>match fn.body with
  | some c=>okCodeT drawD c&&(fn.name != "runtime.NumGoroutine")
  | none=>false
 | none=>false
theorem jvl {f:Nat}(h:okFn f=true):∃fn c,Tryz.prog.funcs[f]?=some fn/\fn.body=some c/\okCodeT drawD c=true/\fn.name ≠ "runtime.NumGoroutine":=by
 unfold okFn at h;cases hf:Tryz.prog.funcs[f]? with
 | none=>rw[hf]at h;cases h
 | some fn=>
  rw[hf]at h;simp only at h;cases hc:fn.body with
  | none=>rw[hc]at h;cases h
  | some c=>
   rw[hc]at h;simp only[Bool.and_eq_true,bne_iff_ne,ne_eq]at h;exact⟨fn,c,rfl,hc,h.1,h.2⟩
theorem jnq:(Tryz.prog.funcs.toList.all λf=>match f.body with|some c=>(readies c).isEmpty|none=>true)=true:=by kernel_rfl
theorem jth:Tryz.prog.follows .staticDataAhead=true/\∀g,Tryz.prog.stepOf g=none:=by
 refine⟨by kernel_rfl,λg=>?_⟩;unfold Program.stepOf;rw[Array.findIdx?_eq_none_iff];intro f hf;have h:=List.all_eq_true.1 jnq f (by simpa using hf);cases hb:f.body with
 | none=>rfl
 | some c=>
  rw[hb]at h;simp only[List.isEmpty_iff]at h;simp[h]
theorem okD:OkD Tryz.prog drawD:=by
 refine⟨jth,λf hf=>jvl ?_⟩;have all:([12,17,18,19,20,30,31].all okFn)=true:=by kernel_rfl
 refine List.all_eq_true.1 all f ?_;simp only[drawD,Bool.or_eq_true,beq_iff_eq]at hf;simp only[List.mem_cons,List.not_mem_nil,or_false];omega
theorem jfw {a:Value}(S:ByteArray):letI:Atom:=⟨212,a⟩;∀X:Nat->Prop,∀v∈(#[.string S]:Array Value),CV X v:=by
 letI:Atom:=⟨212,a⟩
 intro X v hv;simp at hv;subst hv;exact .string
theorem ToEnd.run {a:Value}{p:Addr}{W:World}{g0 g:Goroutine}{Post:Value->World->Prop}(h:ToEnd g)(hY:Reaches a p W g0 g)(hPost:∀w,KeptW W w->Post (.bool true) w):GoodRun W g0 Post:=
 hY.ends λS B w hk=>h Post S B w λw2 ha=>hPost _ (hk.at ha)
def IsText (v:Value):Prop:=∃T:ByteArray,v=.string T/\T.size<=10000
theorem jx5 (a:Option Addr)(n cap:Nat){W:World}(hc:n<=cap)(hm:cap<=maxLen)(hb:BytesAt W a n):∀w,AtRel W w->Calls Tryz.prog 12 #[.slice a n cap] w fun|.returned v,w2=>IsText v/\Below w.heap.size w w2|_,_=>False:=by
 rintro w ⟨d,rfl⟩;refine(j8z a n cap (W.at d) hc hm hb).mono ?_;rintro e w2 ⟨T,rfl,hT,hB⟩;exact⟨⟨T,rfl,hT⟩,hB⟩
theorem jmj {W:World}(S:ByteArray)(hS:S.size<=10000):∀w,KeptW W w->Calls tnp 15 #[.string S] w fun|.returned v,w2=>RetV (strB (complete S.data.toList)) w v w2|_,_=>False:=λw hk=>(Go.Proofs.T.j6x S w (by omega)).mono (by
 rintro e w4 ⟨rfl,rfl⟩;exact⟨rfl,λ_ _=>rfl,rfl,rfl,Nat.le_refl _⟩)
theorem Reaches.impl {a:Value}{p:Addr}{W:World}{g0:Goroutine}{fr law:Frame}{S V:ByteArray}(h:Reaches a p W g0 (G fr []))(hs:Start a p W)(hT:ToCall (G fr []) 13 #[.string S] law)(hV:(execT S.data.toList).toArray=V.data):Reaches a p W g0 (G (law.finish (.string V)) []):=by
 obtain rfl:V=⟨(execT S.data.toList).toArray⟩:=by rw[hV]
 exact h.call hs hT.goes ⟨hT.mode,hT.kind⟩ (by decide) (by kernel_rfl) Tryz.func13 (by kernel_rfl) (jfw S) (jx9 hs S)
theorem Reaches.spec {a:Value}{p:Addr}{W:World}{g0:Goroutine}{fr law:Frame}{S V:ByteArray}(h:Reaches a p W g0 (G fr []))(hs:Start a p W)(hT:ToCall (G fr []) 14 #[.string S] law)(hV:(execT S.data.toList).toArray=V.data):Reaches a p W g0 (G (law.finish (.string V)) []):=by
 obtain rfl:V=⟨(execT S.data.toList).toArray⟩:=by rw[hV]
 exact h.call hs hT.goes ⟨hT.mode,hT.kind⟩ (by decide) (by kernel_rfl) Tryz.func14 (by kernel_rfl) (jfw S) (jxg S)
theorem Reaches.lines {a:Value}{p:Addr}{W:World}{g0:Goroutine}{fr law:Frame}{S:ByteArray}(h:Reaches a p W g0 (G fr []))(hs:Start a p W)(hT:ToCall (G fr []) 15 #[.string S] law)(hS:S.size<=10000):Reaches a p W g0 (G (law.finish (.string ⟨(complete S.data.toList).toArray⟩)) []):=
 h.call hs hT.goes ⟨hT.mode,hT.kind⟩ (by decide) (by kernel_rfl) Tryz.func15 (by kernel_rfl) (jfw S) (jmj S hS)
theorem j2j {a:Value}{p:Addr}{W:World}{fr law:Frame}{x:Option Addr}{n cap:Nat}(hs:Start a p W)(hT:ToCall (G fr []) 12 #[.slice x n cap] law)(hc:n<=cap)(hm:cap<=maxLen)(hb:BytesAt W x n) :
  ∃T:ByteArray,T.size<=10000/\Reaches a p W (G fr []) (G (law.finish (.string T)) []):=by
 obtain⟨V,⟨T,rfl,hT2⟩,h⟩:=jhx hs hT.goes okD (by rfl) (jx5 x n cap hc hm hb);exact⟨T,hT2,h⟩
theorem jdw (b:UInt8):∀s:List UInt8,(Go.Proofs.T.cutB b s).length<=s.length+1
 | []=>by simp[Go.Proofs.T.cutB]
 | c::r=>by
  have ih:=jdw b r;unfold Go.Proofs.T.cutB;split
  ·simp;omega
  ·simp;omega
theorem jqh (t:List UInt8):(Go.Proofs.T.linesOf t).length<=t.length:=by
 have:=jdw 10 t;unfold Go.Proofs.T.linesOf;rw[List.length_dropLast];omega
theorem jt2 (t:List UInt8):(execT t).length<=9000000:=by
 unfold execT;split
 ·decide
 ·rename_i h
  have h1:=Go.Proofs.T.jft t (Go.Proofs.T.linesOf t).length;rw[List.take_length]at h1;have h2:(Go.Proofs.T.linesOf t).length<=t.length:=jqh t;have h3:(Go.Proofs.T.endT (Go.Proofs.T.runL (Go.Proofs.T.linesOf t)).1).length<=6:=by
   rcases Go.Proofs.T.jdx (Go.Proofs.T.runL (Go.Proofs.T.linesOf t)).1 with e|e<;>rw[e]<;>decide
  rw[List.length_append];omega
theorem jkh:tnp.globals=Tryz.prog.globals:=by kernel_rfl
theorem jrf : "*" ++ "errors.errorString" = "*errors.errorString":=by decide
theorem jxf (u:TypeId)(h:Tryz.prog.typeName? 3 u=some "*errors.errorString"):u=212:=
 typeName_ptr_named (nm := "errors.errorString") (by rw[jrf];kernel_rfl) (by kernel_rfl) (by decide) u (by rw[jrf];exact h)
theorem jg5 {P:Program}{w:World}{n:String}{g:Nat}{cs:Array Value}(hg:P.globalNamed n=some g)(h:w.var? P n=some cs):∃t fr,w.heap[g]?=some (.cells cs t fr):=by
 unfold World.var? at h;rw[hg]at h;simp only[Option.bind_some]at h;split at h
 ·rename_i c t fr he
  cases h;exact⟨t,fr,he⟩
 ·cases h
theorem jx6 {w:World}{l:List (String×DataW Unit)}{text:List UInt8}(h:laidMetH Tryz.prog l w)(hl:(l.filter λx=>x.1 == "loop.example/chainfiles/impl.errTake")=[("loop.example/chainfiles/impl.errTake",.iface "*errors.errorString" (.ptr (.agg [.lit (.string text)])))]) :
  ∃a:Addr,w.var? Tryz.prog "loop.example/chainfiles/impl.errTake"=some #[.iface 212 (.pointer (some a))]:=by
 have h1:=h.filter (λx=>x.1 == "loop.example/chainfiles/impl.errTake");rw[hl,MakeChecks.laidMetH_plain _ _ _ (by rfl)]at h1;obtain⟨a,s,hv,_⟩:=laid_sentinel h1 (g:=3) (ti:=47) (tp:=212) (te:=235) (ts:=9) (by kernel_rfl) (by kernel_rfl) Tryz.underlying47 jxf Tryz.underlying212 Tryz.underlying235 rfl rfl Tryz.underlying9 (by kernel_rfl) (by kernel_rfl);exact⟨a,hv⟩
theorem jxd {w:World}{l:List (String×DataW Unit)}(h:laidMetH Tryz.prog l w)(hl:(l.filter λx=>x.1 == "internal/strconv.uint64pow10")=[("internal/strconv.uint64pow10",Lib.tabData .u64 Lib.pow10Tab)]):Go.Proofs.T.Pow10 w:=by
 have h1:=h.filter (λx=>x.1 == "internal/strconv.uint64pow10");rw[hl,MakeChecks.laidMetH_plain _ _ _ (by rfl)]at h1;have h2:=Lib.tabIs_of_head (P:=Tryz.prog) (g:=4) (by kernel_rfl) (by kernel_rfl) Tryz.underlying201 Tryz.underlying148 (by kernel_rfl) (by kernel_rfl) h1;unfold Go.Proofs.T.Pow10;unfold Lib.TabIs World.var? Program.globalNamed at h2 ⊢;rw[jkh];exact h2
theorem jxb {w:World}(h:w.ShapedOpen Tryz.prog):Go.Proofs.T.MaxCell w:=
 cell_of_shapedOpen_int (t:=3) (zero:=#[.int .i64 0]) h (of_decide_eq_true (by kernel_rfl)) (by kernel_rfl) rfl (by kernel_rfl) (by kernel_rfl) Tryz.underlying3
noncomputable def intVar (P:Program)(g:Nat):Bool:=match ((begin P (λ_ _=>0) default).world.heap[g]?).bind Obj.row? with
 | some (_,t)=>P.buildable t&&match P.cellTypes P.depth t with
  | some ts=>ts.all λu=>match P.underlying u with|some (.int _)=>true|_=>false
  | none=>false
 | none=>false
theorem joy {P:Program}{w:World}{X:Nat->Prop} [Atom](h:w.ShapedOpen P){g:Nat}(hg:g<P.globals.size)(hi:intVar P g=true):∀o,w.heap[g]?=some o->CO X o:=by
 unfold intVar at hi;cases h0:((begin P (λ_ _=>0) default).world.heap[g]?).bind Obj.row? with
 | none=>rw[h0]at hi;cases hi
 | some zt=>
  obtain⟨zero,t⟩:=zt;rw[h0]at hi;simp only[Bool.and_eq_true]at hi;obtain⟨hb,hi⟩:=hi;obtain⟨cs,hcs,_,hrow⟩:=h.1 g zero t hg h0;obtain⟨ts,hts,_,hok⟩:=hrow hb;rw[hts]at hi;simp only at hi;intro o ho;rw[hcs]at ho;cases ho;intro v hv;obtain⟨i,hlt,rfl⟩:=Array.mem_iff_getElem.1 hv;obtain⟨u,hu,hc⟩:=hok i _ (Array.getElem?_eq_getElem hlt);have h1:=List.all_eq_true.1 hi u (List.mem_of_getElem? hu);unfold Cell.ok at hc;generalize cs[i]=v at hc ⊢;split at h1
  ·rename_i k hk
   rw[hk]at hc;split at hc<;>first|exact .int|(simp_all;done)|exact hc.elim
  ·cases h1
theorem jt8:((List.range Tryz.prog.globals.size).all λg=>g==3||intVar Tryz.prog g)=true:=by kernel_rfl
theorem jgi {w:World}{X:Nat->Prop} [Atom](h:w.ShapedOpen Tryz.prog):∀o,w.heap[Tryz.prog.globals.size]?=some o->CO X o:=by
 intro o ho;obtain⟨o1,o2,h1,h2,h3⟩:=h.2 Tryz.prog.globals.size (Nat.le_refl _) (of_decide_eq_true (by kernel_rfl));rw[ho]at h1;cases h1;rw[if_neg (by rw[Nat.sub_self];decide)]at h3;subst h3;have e:(begin Tryz.prog (λ_ _=>0) default).world.heap[Tryz.prog.globals.size]?=some (.cells ((Array.range Tryz.prog.types.size).map λt=>.int .u64 (Int.ofNat t)) 0):=by kernel_rfl
 rw[e]at h2;cases h2;intro v hv;obtain⟨t,_,rfl⟩:=Array.mem_map.1 hv;exact .int
theorem j4l {w:World}{l:List (String×DataW Unit)}{text:List UInt8}(h:laidMetH Tryz.prog l w)(hS:w.ShapedOpen Tryz.prog)
  (h1:(l.filter λx=>x.1 == "loop.example/chainfiles/impl.errTake")=[("loop.example/chainfiles/impl.errTake",.iface "*errors.errorString" (.ptr (.agg [.lit (.string text)])))])
  (h2:(l.filter λx=>x.1 == "internal/strconv.uint64pow10")=[("internal/strconv.uint64pow10",Lib.tabData .u64 Lib.pow10Tab)]):∃a p,Start a p w:=by
 obtain⟨p,hv⟩:=jx6 h h1;obtain⟨t,fr,hb⟩:=jg5 (g:=3) (by kernel_rfl) hv;refine⟨.pointer (some p),p,⟨?_,?_,⟨jxd h h2,World.var?_cell (by kernel_rfl) hv 0,jxb hS⟩⟩⟩
 ·obtain⟨o1,_,h3,_⟩:=hS.2 Tryz.prog.globals.size (Nat.le_refl _) (of_decide_eq_true (by kernel_rfl));exact(Array.getElem?_eq_some_iff.1 h3).1
 ·intro b o hlt ho
  letI:Atom:=⟨212,.pointer (some p)⟩
  by_cases e:b=Tryz.prog.globals.size
  ·subst e;exact jgi hS o ho
  ·have hlt2:b<Tryz.prog.globals.size:=by omega
   have h3:=List.all_eq_true.1 jt8 b (List.mem_range.2 hlt2);simp only[Bool.or_eq_true,beq_iff_eq]at h3;rcases h3 with rfl|h3
   ·rw[hb]at ho;cases ho;intro v hv;simp at hv;subst hv;exact .atom
   ·exact joy hS hlt2 h3 o ho
section
variable {H:Type}{enc:TypeId×Value->H}
theorem j2h {a:Assume}{os:Os}{f:FuncId}{fn:Func}{s:ChangeSpec}{conds:List PathCond}{apart fresh handsOn again:Bool}{laid:List (String×DataW Unit)}
  (own:ownKnob Tryz.prog.godebug=none)(started:os.Started)(hfn:Tryz.prog.funcs[f]?=some fn)
  (witness:∃(w:World)(tape:Tape)(i:Input),w.os=os/\(w.forCall tape i).Shaped Tryz.prog/\i.vars=[]/\Input.okWide Tryz.prog (w.forCall tape i) .any w.heap.size f i /\
   (OpenSpec.ofChange s).preRow enc Tryz.prog fn conds apart laid (w.forCall tape i).memory i.args/\a.holds Tryz.prog (lone (Frame.enter Tryz.prog f i.args .normal) [] (w.forCall tape i)))
  (runs:∀(W:World)(base:Nat)(args:Array Value)(ds gs:List (DataW H))(before:List MemPlace),
   (∀(j:Nat) t v,fn.params[j]?=some t->args[j]?=some v->Value.okWide Tryz.prog W .any base t v) ->
   DataW.Whole enc Tryz.prog fn.params.toList s.vars apart W args.toList ds gs before->laidMetH Tryz.prog laid W->W.ShapedOpen Tryz.prog ->
   GoodRun W (G (Frame.enter Tryz.prog f args .normal) []) λv W'=>s.post enc Tryz.prog fn apart fresh handsOn again W args v (W'.on W.tape W.drawn)) :
  ReturnsInLeavingWide a Tryz.checked os f .any ((OpenSpec.ofChange s).preRow enc Tryz.prog fn conds apart laid) (s.post enc Tryz.prog fn apart fresh handsOn again):=by
 refine returnsInLeavingWide_of_good (C:=Tryz.checked) own started witness ?_;intro w tape i _ hsh _ hok hpre _;obtain⟨_,_,_,fn',hfn',_,_,_,_,hval⟩:=hok;have e:fn'=fn:=Option.some.inj (hfn'.symm.trans hfn);subst e;obtain⟨⟨hp,hl⟩,hz⟩:=hpre;obtain⟨ds,gs,before,hw,hc,hk⟩:=OpenSpec.pre_parts hp;have hw':=DataW.Whole.of_heap (w':=w.forCall tape i) (by rfl) hw;obtain⟨M,last,o,w',t',h1,h2,h3,h4⟩:=runs (w.forCall tape i) w.heap.size i.args ds gs before hval hw' (hl.of_heap (by rfl)) hsh;have hb:∀(τ:Nat->Question->Nat) (d:Nat),(w'.on τ d).blind=w'.blind:=λ_ _=>rfl;have h5:=h4.mono (Post':=λv w'=>s.post enc Tryz.prog fn' apart fresh handsOn again (w.forCall tape i).blind i.args v w'.blind) λv hp=>by
  have h6:=ChangeSpec.post_blind hp;rw[hb]at h6;exact h6
 exact⟨M,last,o,w',t',h1,h2,h3,h5⟩
end
open Go.Proofs.YtbcegllhelfijaaGreatDoor
noncomputable def wit (os:Os):World:=(World.doorLaid Tryz.prog 70 os).layVars Tryz.prog Rows.fnScriptRow.laid
theorem ja8 (os:Os):(wit os).os=os:=World.layVars_os _ _ _
theorem jtb {P:Program}{w0:World}{l:List (String×DataW Unit)}(hf:w0.layFits P l []=true)(hi:w0.layIfaces P l (w0.layVars P l)=true):laidMet P l (w0.layVars P l):=by
 have e1:(l.filter λx=>(l.map (·.1)).contains x.1)=l:=List.filter_eq_self.2 λx hx=>List.contains_iff_mem.2 (List.mem_map_of_mem hx);have e2:(l.filter λx=>!(l.map (·.1)).contains x.1)=[]:=List.filter_eq_nil_iff.2 λx hx=>by
  rw[List.contains_iff_mem.2 (List.mem_map_of_mem hx)];simp
 refine laidMet_layVars (w0:=w0) (l.map (·.1)) [] ?_ ?_ ?_ ?_
 ·rw[e1]
 ·rw[e1];exact hf
 ·rw[e1];exact hi
 ·rw[e2];exact LaidIn.none
theorem jub (os:Os):(World.doorLaid Tryz.prog 70 os).layFits Tryz.prog Rows.fnScriptRow.laid []=true:=by kernel_rfl
theorem jo7 (os:Os):(World.doorLaid Tryz.prog 70 os).layIfaces Tryz.prog Rows.fnScriptRow.laid (wit os)=true:=by kernel_rfl
theorem j6c (os:Os)(args:Array Value):laidMetH Tryz.prog Rows.fnScriptRow.laid ((wit os).forCall (λ_ _=>0) ⟨#[],args,[]⟩).memory:=by
 have h:laidMetH Tryz.prog Rows.fnScriptRow.laid (wit os):=by
  rw[MakeChecks.laidMetH_plain _ _ _ (by rfl)];exact jtb (jub os) (jo7 os)
 exact laidMetH.of_heap (by simp[World.memory,World.forCall,Input.heap]) h
open Go.Proofs.T
open Go.RowKit Go.Joins Go.ChangeShapes Go.WideShapes Go.Deep
def IsCodeV (w:World)(v:Value):Prop:=∃(a:Option Addr)(n cap:Nat)(zs:List Int),v=.slice a n cap/\IsRow .u8 w a n cap zs
theorem j3g {H:Type}{enc:TypeId×Value->H}{w:World}{base:Nat}{spare:Nat->Bool}{held:Bool}{v:Value}{d:DataW H}{p:List MemPlace}(r:Reach)(b0:Nat)(hsp:spare=λ_=>true)(hv:Value.okWide Tryz.prog w r b0 22 v)(h:DataW.Trod enc Tryz.prog w base spare held 22 v d p):IsCodeV w v:=by
 subst hsp;obtain⟨a0,len0,cap0,rfl⟩:=okWide_slice Tryz.underlying22 hv;obtain⟨fuel,hf⟩:=h;rcases open_ints Tryz.underlying22 Tryz.underlying5 (by kernel_rfl) hf with⟨hcs,_⟩|⟨x,l,c,zs,hcs,_,hl,hm,hz,_,hcell,hwz⟩
 ·simp[Value.cells]at hcs;obtain⟨rfl,rfl,rfl⟩:=hcs;exact⟨none,0,0,[],rfl,.inl ⟨rfl,rfl,rfl,rfl⟩⟩
 ·simp[Value.cells]at hcs;obtain⟨rfl,rfl,rfl⟩:=hcs;exact⟨_,_,_,zs,rfl,.inr ⟨_,rfl,hl,hm,by simpa using hz,hcell,hwz⟩⟩
def IsStrV (v:Value):Prop:=∃s:ByteArray,v=.string s/\s.size<=maxLen
theorem jhl {H:Type}{enc:TypeId×Value->H}{w:World}{base:Nat}{spare:Nat->Bool}{held:Bool}{v:Value}{d:DataW H}{p:List MemPlace}(r:Reach)(b0:Nat)(hv:Value.okWide Tryz.prog w r b0 9 v)(h:DataW.Trod enc Tryz.prog w base spare held 9 v d p):IsStrV v:=by
 obtain⟨s,rfl,_,_,hs⟩:=Go.ChangeMaps.open_string Tryz.underlying9 hv h;exact⟨s,rfl,hs⟩
end Go.Proofs.Mn
