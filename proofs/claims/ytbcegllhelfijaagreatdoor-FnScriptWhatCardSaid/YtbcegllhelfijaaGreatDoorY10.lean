/-
  A part of the proof.
-/
import Derived.Test.YtbcegllhelfijaaGreatDoorY09
set_option linter.all false
set_option maxRecDepth 100000
set_option maxHeartbeats 8000000
namespace Go.Proofs.Mn
open Go.Conc Go.RowKit Go.Conc.Lib Go.ConcR.Gen Go.ConcN.Gen
open Go.ConcN (WgLive RW DWs AtR0 Has)
open Go.ConcR (KK wgBlock WgAt stA smA rd wr mk Payload DC0)
theorem j2t {w wz:World}{b i:Nat}(h:wz.heap[b]?=w.heap[b]?):wz.cell? ⟨b,i,none⟩=w.cell? ⟨b,i,none⟩:=by
 simp only[World.cell?,h]
noncomputable def bot:Frame:={ (default:Frame)with fn:=Tryz.prog.funcs.size,defers:=[],mode:=.panicking [goexitEntry] }
noncomputable def bodyS:Code:=Tryz.f132.body.getD .skip
def callS (N:Nat):Deferred:={ target:=.fn (.func 132) #[.pointer (some ⟨N+7,0,none⟩),.pointer (some ⟨N+3,0,none⟩),.pointer (some ⟨N+6,0,none⟩)],args:=#[] }
structure SK (N:Nat)(a b:Value)(w:World):Prop where
 k:WgLive Tryz.link.tWg (N+7) w
 ch:w.cell? ⟨N+3,0,none⟩=some (.chan (some (N+2)))
 v0:w.cell? ⟨N+6,0,none⟩=some a
 v1:w.cell? ⟨N+6,1,none⟩=some b
section
variable {N B:Nat}{a b:Value}{w wz:World}
theorem SK.rely (h:SK N a b w)(r:RS Tryz.link.tWg N w wz):SK N a b wz:=by
 have h3:=r.block (N+3) (by omega) (by omega) (by omega) (by omega);have h6:=r.block (N+6) (by omega) (by omega) (by omega) (by omega);exact⟨r.live h.k,by rw[j2t h3];exact h.ch,by rw[j2t h6];exact h.v0,by rw[j2t h6];exact h.v1⟩
theorem jj7 (w:World):DS N B w w #[]:=⟨rfl,by simp⟩
theorem jgr (hB:N+8<=B)(ad:Addr)(h:ad.block=N+3):EvS N B ⟨.cell ad,false,false⟩:=by
 refine⟨λx hx=>?_,by simp,by simp,(by show ad.block<B;omega),by simp⟩;simp only[ofEvent_cell0,MemAct.touch?,Option.some.injEq]at hx;subst hx;exact⟨ad,rfl,.inr ⟨h,rfl⟩⟩
theorem jpj (hB:N+8<=B)(ad:Addr)(h:ad.block=N+6):EvS N B ⟨.cell ad,false,false⟩:=by
 refine⟨λx hx=>?_,by simp,by simp,(by show ad.block<B;omega),by simp⟩;simp only[ofEvent_cell0,MemAct.touch?,Option.some.injEq]at hx;subst hx;exact⟨ad,rfl,.inl h⟩
theorem jwy (N:Nat)(w:World):stepG Tryz.prog false (born Tryz.prog (callS N)) w =
  .go (G ((baseD 132).at ⟨#[.pointer (some ⟨N+7,0,none⟩),.pointer (some ⟨N+3,0,none⟩),.pointer (some ⟨N+6,0,none⟩),undef,undef,undef],[]⟩ [.code bodyS]) [bot]) w #[]:=by
 simp[born,callS,stepG,unwind,callDeferred,invoke,callFunc,Tryz.func132,Tryz.f132,seen,GStep.after,G,Frame.enter,Frame.at,baseD,bot,bodyS]
theorem quitsS (T:Array Value):QuitsD Tryz.prog 2 0 (G { (baseD 132).at ⟨T,[]⟩ []with mode:=.returning } [bot]):=by
 refine QuitsD.ctl (g':=G bot []) rfl (λw=>?_) ?_
 ·simp[G,stepG,unwind,doReturn,results,Frame.at,baseD,bot,Tryz.func132,Tryz.f132,seen,GStep.after,goexitEntry]
 refine QuitsD.ctl (g':={ G bot []with status:=.finished }) rfl (λw=>?_) ⟨rfl,rfl⟩;simp[G,stepG,unwind,bot,goexitEntry,Frame.catches];rfl
theorem sendS (hB:N+8<=B)(w:World)(hF:SK N a b w):∃m,ToSend Tryz.prog Tryz.link.tWg N B (.agg #[a,b]) a m (born Tryz.prog (callS N)) w:=by
 unfold ToSend;refine⟨30,Goes.step rfl λwz rq=>?_⟩;rw[jwy];refine⟨jj7 _,?_⟩;replace hF:=SK.rely hF rq;clear rq;simp only[bodyS,Tryz.f132,Option.getD_some];refine calm (m2:=20) (m1:=9) (λw=>⟨rfl,rfl,rfl,λ_ _ _ _ _=>rfl,id⟩) jj7 ?_;u_c stepG_seq (SK.rely) hF;u_reg (SK.rely) hF;u_defer (SK.rely) hF;u_c stepG_region_end (SK.rely) hF;u_c stepG_seq (SK.rely) hF;u_reg (SK.rely) hF;refine Goes.stop λwz kv=>?_;replace hF:=SK.rely hF kv;clear kv;refine Goes.step rfl λwz kv=>?_;replace hF:=SK.rely hF kv;clear kv;refine goes_oper_k rfl rfl (by k_ne) λK hK=>?_;have hc:=hF.ch;go_simp;refine hK _ _ ⟨⟨rfl,λe he=>?_⟩,?_⟩
 ·have hm:=mem_listed he;simp[go_sem, *]at hm;subst hm;exact jgr hB _ rfl
 clear hK K hc;refine Goes.step rfl λwz kv=>?_;replace hF:=SK.rely hF kv;clear kv;refine goes_oper_k rfl rfl (by k_ne) λK hK=>?_;have hc0:=hF.v0;have hc1:=hF.v1;go_simp;refine hK _ _ ⟨⟨rfl,λe he=>?_⟩,?_⟩
 ·have hm:=mem_listed he;simp[go_sem, *]at hm;rcases hm with rfl|rfl<;>exact jpj hB _ rfl
 clear hK K hc0 hc1;refine Goes.stop λwz kv=>?_;replace hF:=SK.rely hF kv;clear kv;refine⟨rfl,rfl,.tuple #[],_,stepG_comm (cases:=#[scase (N+2) (.agg #[a,b]) (.tuple #[])]) (blocking:=true) (shape:=.send) (w':=wz) rfl rfl (by k_ne) (by simp[go_sem,execOp,scase,Act.eval]),λe he=>?_,?_⟩
 ·have hm:=mem_listed he;simp[go_sem,execOp,Act.eval]at hm
 refine⟨30,?_⟩;rw[served_G];unfold ToClose
 walk_nrm
 refine calm (m2:=20) (m1:=10) (λw=>⟨rfl,rfl,rfl,λ_ _ _ _ _=>rfl,id⟩) jj7 ?_;u_c stepG_region_end (SK.rely) hF;u_reg (SK.rely) hF;refine Goes.stop λwz kv=>?_;replace hF:=SK.rely hF kv;clear kv;refine Goes.step rfl λwz kv=>?_;replace hF:=SK.rely hF kv;clear kv;refine goes_oper_k rfl rfl (by k_ne) λK hK=>?_;have hc:=hF.ch;go_simp;refine hK _ _ ⟨⟨rfl,λe he=>?_⟩,?_⟩
 ·have hm:=mem_listed he;simp[go_sem, *]at hm;subst hm;exact jgr hB _ rfl
 clear hK K hc;refine Goes.stop λwz kv=>?_;replace hF:=SK.rely hF kv;clear kv;refine⟨rfl,rfl,λkk hch=>⟨_,rfl,stepG_close (c:=N+2) rfl rfl (by k_ne) rfl rfl hch (by kernel_rfl),3+23,?_⟩⟩;have hK:WgLive Tryz.link.tWg (N+7) (wz.setChan (N+2) 0 #[] true kk kk false)/\Has (N+6) (1-1) a (wz.setChan (N+2) 0 #[] true kk kk false):=by
  refine⟨?_,?_⟩
  ·obtain⟨st,sm,h⟩:=hF.k;refine⟨st,sm,?_⟩;have e:(wz.setChan (N+2) 0 #[] true kk kk false).heap[N+7]?=wz.heap[N+7]?:=by
    simp[World.setChan,Array.getElem?_setIfInBounds]
   unfold WgAt at h ⊢;rw[e];exact h
  ·have e:(wz.setChan (N+2) 0 #[] true kk kk false).heap[N+6]?=wz.heap[N+6]?:=by
    simp[World.setChan,Array.getElem?_setIfInBounds]
   exact(j2t e).trans hF.v0
 walk_nrm
 unfold ToDone;u_c stepG_region_end kn_rely hK;u_c stepG_end kn_rely hK
 u_in kn_rely hK
 rw[stepG_unwind_enter rfl Tryz.wgLib.f_done (nm_done Tryz.link) rfl];simp only[goes_go];refine⟨by u_nil,?_⟩
 walk_nrmf doneFn
 have hA:=λ(T:Array Value) (W:World) hK=>@toDoneG Tryz.link _ Tryz.prog Tryz.wgLib N 1 a _ [bot] 2 rfl (quitsS T) W hK;unfold ToDone at hA;simp only[body_done,doneFn,Option.getD_some]at hA;exact hA _ _ hK
end
open Go.Conc Go.RowKit Go.Conc.Lib Go.ConcR.Gen Go.ConcN.Gen
open Go.ConcN (WgLive RW DWs AtR0 Has)
open Go.ConcR (KK wgBlock WgAt stA smA rd wr mk Payload DC0)
noncomputable def bodyR:Code:=Tryz.f134.body.getD .skip
def callR (N:Nat):Deferred:={ target:=.fn (.func 134) #[.pointer (some ⟨N+7,0,none⟩),.pointer (some ⟨N+3,0,none⟩),.pointer (some ⟨N+5,0,none⟩)],args:=#[] }
structure RK (N:Nat)(b:Value)(w0 w:World):Prop where
 k:WgLive Tryz.link.tWg (N+7) w
 v1:w.cell? ⟨N+6,1,none⟩=some b
 ch:w.cell? ⟨N+3,0,none⟩=some (.chan (some (N+2)))
 size:w.heap.size=w0.heap.size
 block:∀b,b≠N+2->b≠N+7->w.heap[b]?=w0.heap[b]?
section
theorem jao (b j:Nat):(⟨b,0,none⟩:Addr).add j=⟨b,j,none⟩:=by
 unfold Addr.add;split
 ·simp_all
 ·simp
def cutq (n k:Nat):Nat:=Question.cut (.appendCap (n+1) n 76) k
noncomputable def rsq (n k:Nat)(row:List Value)(a b:Value):Array Value:=(row++[a,b]).toArray++Builtin.zeroCells #[.int .i64 0,.int .i64 0] (cutq n k-(n+1))
theorem jph {N B:Nat}(ad:Addr)(wr sy:Bool)(h:ad.block=N+4\/ad.block=N+5\/N+8<=ad.block)(hB:ad.block<B):EvR N B ⟨.cell ad,wr,sy⟩:=by
 refine⟨λx hx=>?_,by simp,by simp,?_,by simp⟩
 ·have:x.loc=.cell ad:=by
   cases wr<;>cases sy<;>simp[MemAct.ofEvent,MemAct.touch?]at hx<;>subst hx<;>rfl
  exact⟨ad,this,.inl h⟩
 ·cases wr<;>cases sy<;>exact hB
theorem jj8 {N B:Nat}{m:Mark}(h:Neutral m):EvR N B ⟨.mark m,false,true⟩:=by
 unfold Neutral at h;subst h;exact⟨λx hx=>by simp[MemAct.ofEvent,MemAct.touch?]at hx,by simp,by simp,trivial,by simp⟩
structure FinR (N n:Nat)(a b:Value)(row:List Value)(w:World):Prop where
 size:w.heap.size=N+11
 box:w.heap[N+8]?=some (.cells #[a,b] 76)
 one:w.heap[N+9]?=some (.cells #[a,b] 76)
 log:∃k,w.heap[N+5]?=some (.cells #[.slice (some ⟨N+10,0,none⟩) (n+1) (cutq n k)] 58) /\
  w.heap[N+10]?=some (.cells (rsq n k row a b) 76)
variable {N B:Nat}{b:Value}{w0 w wz:World}
theorem FinR.rely {n:Nat}{a:Value}{row:List Value}(r:RR Tryz.link.tWg N w wz)(h:FinR N n a b row w):FinR N n a b row wz:=by
 obtain⟨h1,h2,h3,k,h4,h5⟩:=h;exact⟨r.size.trans h1,(r.block _ (by omega) (by omega)).trans h2,(r.block _ (by omega) (by omega)).trans h3,k,(r.block _ (by omega) (by omega)).trans h4,(r.block _ (by omega) (by omega)).trans h5⟩
theorem RK.rely (h:RK N b w0 w)(r:RR Tryz.link.tWg N w wz):RK N b w0 wz:=by
 have h3:=r.block (N+3) (by omega) (by omega);have h6:=r.block (N+6) (by omega) (by omega);exact⟨r.live h.k,by rw[j2t h6];exact h.v1,by rw[j2t h3];exact h.ch,r.size.trans h.size,λb h1 h2=>(r.block b h1 h2).trans (h.block b h1 h2)⟩
theorem RK.base (h:RK N b w0 w){W:World}(hs:∀b',b'<N+8->b'≠N+5->W.heap[b']?=w.heap[b']?):RK N b W W:=by
 refine⟨?_,(j2t (hs _ (by omega) (by omega))).trans h.v1,(j2t (hs _ (by omega) (by omega))).trans h.ch,rfl,λ_ _ _=>rfl⟩;obtain⟨st,sm,h⟩:=h.k;refine⟨st,sm,?_⟩;unfold WgAt at h ⊢;rw[hs _ (by omega) (by omega)];exact h
theorem j8y (w:World):DR N B w w #[]:=⟨rfl,rfl,rfl,Nat.le_refl _,λ_ _ _=>rfl,by simp⟩
theorem jf3 {w:World}{es:Array Event}(h:∀e∈es,EvR N B e):DR N B w w es:=⟨rfl,rfl,rfl,Nat.le_refl _,λ_ _ _=>rfl,h⟩
theorem jci (w:World):RR Tryz.link.tWg N w w:=⟨rfl,rfl,rfl,rfl,λ_ _ _=>rfl,id⟩
theorem jpi (hB:N+8<=B)(ad:Addr)(h:ad.block=N+3):EvR N B ⟨.cell ad,false,false⟩:=by
 refine⟨λx hx=>?_,by simp,by simp,(by show ad.block<B;omega),by simp⟩;simp only[ofEvent_cell0,MemAct.touch?,Option.some.injEq]at hx;subst hx;exact⟨ad,rfl,.inr ⟨h,rfl⟩⟩
theorem jf6 (ad:Addr)(wr:Bool)(h:ad.block=N+4\/ad.block=N+5\/N+8<=ad.block)(hB:ad.block<B):EvR N B ⟨.cell ad,wr,false⟩:=by
 refine⟨λx hx=>?_,by simp,by simp,(by show ad.block<B;omega),by simp⟩;simp only[ofEvent_cell0,MemAct.touch?,Option.some.injEq]at hx;subst hx;exact⟨ad,rfl,.inl h⟩
theorem j3j (w:World)(o:Obj){b:Nat}(h:b<w.heap.size):(w.alloc o).heap[b]?=w.heap[b]?:=by
 simp only[World.alloc];rw[Array.getElem?_push_lt h,Array.getElem?_eq_getElem h]
theorem j6t (w:World)(o:Obj){b:Nat}(h:b<w.heap.size):(w.drew.alloc o).heap[b]?=w.heap[b]?:=j3j w.drew o h
theorem j74 {n:Nat}{a:Value}{row:List Value}(h:RK N b w0 w/\FinR N n a b row w)(r:RR Tryz.link.tWg N w wz):RK N b w0 wz/\FinR N n a b row wz:=⟨h.1.rely r,h.2.rely r⟩
theorem jwx (N:Nat)(w:World):stepG Tryz.prog false (born Tryz.prog (callR N)) w =
  .go (G ((baseD 134).at ⟨#[.pointer (some ⟨N+7,0,none⟩),.pointer (some ⟨N+3,0,none⟩),.pointer (some ⟨N+5,0,none⟩),undef,undef,undef,undef,undef,undef,undef,undef,undef],[]⟩ [.code bodyR]) [bot]) w #[]:=by
 simp[born,callR,stepG,unwind,callDeferred,invoke,callFunc,Tryz.func134,Tryz.f134,seen,GStep.after,G,Frame.enter,Frame.at,baseD,bot,bodyR]
theorem quitsR (T:Array Value):QuitsD Tryz.prog 2 0 (G { (baseD 134).at ⟨T,[]⟩ []with mode:=.returning } [bot]):=by
 refine QuitsD.ctl (g':=G bot []) rfl (λw=>?_) ?_
 ·simp[G,stepG,unwind,doReturn,results,Frame.at,baseD,bot,Tryz.func134,Tryz.f134,seen,GStep.after,goexitEntry]
 refine QuitsD.ctl (g':={ G bot []with status:=.finished }) rfl (λw=>?_) ⟨rfl,rfl⟩;simp[G,stepG,unwind,bot,goexitEntry,Frame.catches];rfl
theorem recvR {a:Value}(ha:a.oneCell'=true)(hb:b.oneCell'=true)(hB:N+11<=B)(hsz:w0.heap.size=N+8){n:Nat}(hn:n<=12){row:List Value}(hrl:row.length=n*2)
  (hlogB:w0.heap[N+5]?=some (.cells #[.slice (some ⟨N+4,0,none⟩) n n] 58))(hrow0:w0.heap[N+4]?=some (.cells row.toArray 76))
  (w:World)(hF:RK N b w0 w):∃m,ToRecv Tryz.prog Tryz.link.tWg N B (FinR N n a b row) (.agg #[a,b]) b m (born Tryz.prog (callR N)) w:=by
 obtain⟨a0,ha0⟩:∃a0:Option Addr,a0=some ⟨N+4,0,none⟩:=⟨_,rfl⟩;rw[<- ha0]at hlogB;have hlog:w0.cell? ⟨N+5,0,none⟩=some (.slice a0 n n):=by simp[World.cell?,hlogB]
 unfold ToRecv;refine⟨30,Goes.step rfl λwz rq=>?_⟩;rw[jwx];refine⟨j8y _,?_⟩;replace hF:=RK.rely hF rq;clear rq;simp only[bodyR,Tryz.f134,Option.getD_some];refine calm (m2:=20) (m1:=9) jci j8y ?_;u_c stepG_seq (RK.rely) hF;u_reg (RK.rely) hF;u_defer (RK.rely) hF;u_c stepG_region_end (RK.rely) hF;u_c stepG_seq (RK.rely) hF;u_reg (RK.rely) hF;refine Goes.stop λwz kv=>?_;replace hF:=RK.rely hF kv;clear kv;refine Goes.step rfl λwz kv=>?_;replace hF:=RK.rely hF kv;clear kv;refine goes_oper_k rfl rfl (by k_ne) λK hK=>?_;have hc:=hF.ch;go_simp;refine hK _ _ ⟨jf3 (λe he=>?_),?_⟩
 ·have hm:=mem_listed he;simp[go_sem, *]at hm;subst hm;exact jpi (by omega) _ rfl
 clear hK K hc;refine calm0 jci j8y ?_;u_c stepG_region_end (RK.rely) hF;u_c stepG_block (RK.rely) hF;u_c stepG_loop (RK.rely) hF;u_c stepG_seq (RK.rely) hF;u_reg (RK.rely) hF;refine Goes.stop λwz kv=>?_;replace hF:=RK.rely hF kv;clear kv;refine⟨rfl,rfl,_,_,stepG_comm (cases:=#[rcase (N+2) _]) (blocking:=true) (shape:=.recv true) (w':=wz) rfl rfl (by k_ne) (by simp[go_sem,execOp,rcase,Act.eval];rfl),λe he=>?_,?_⟩
 ·have hm:=mem_listed he;simp[go_sem,execOp,Act.eval]at hm
 refine⟨40,?_⟩;rw[served_G];unfold ToRecv2;simp only[recvd,if_true]
 walk_nrm
 refine calm (m2:=30) (m1:=10) jci j8y ?_
 u_op (RK.rely) hF
 u_c stepG_region_end (RK.rely) hF;u_c stepG_seq (RK.rely) hF
 u_cond true (RK.rely) hF
 u_c stepG_skip (RK.rely) hF;u_c stepG_block (RK.rely) hF;u_c stepG_seq (RK.rely) hF;u_reg (RK.rely) hF
 u_op (RK.rely) hF
 refine Goes.stop λwz kv=>?_;replace hF:=RK.rely hF kv;clear kv;refine Goes.step rfl λwz kv=>?_;replace hF:=RK.rely hF kv;clear kv;refine goes_oper_k rfl rfl (by k_ne) λK hK=>?_;go_simp;refine hK _ _ ⟨⟨rfl,rfl,rfl,(by show _<=(Array.push _ _).size;rw[Array.size_push];omega),λb hb _=>?_,λe he=>?_⟩,?_⟩
 ·have hs:=hF.size;exact j3j _ _ (by omega)
 ·have hm:=mem_listed he;simp[go_sem]at hm
 clear hK K;have hsz1:=hF.size;have r1:wz.heap[N+4]?=w0.heap[N+4]?:=hF.block (N+4) (by omega) (by omega);have q1:wz.heap[N+5]?=w0.heap[N+5]?:=hF.block (N+5) (by omega) (by omega);have hl1:wz.cell? ⟨N+5,0,none⟩=some (.slice a0 n n):=(j2t (hF.block (N+5) (by omega) (by omega))).trans hlog;obtain⟨W,hW⟩:∃W,wz.alloc (.cells #[.int .i64 0,.int .i64 0] 76)=W:=⟨_,rfl⟩;have hu:W.heap[N+8]?=some (.cells #[.int .i64 0,.int .i64 0] 76):=by
  rw[<- hW];simp only[World.alloc];have e:wz.heap.size=N+8:=by omega
  rw[<- e,Array.getElem?_push_size]
 have e8:wz.heap.size=N+8:=by omega
 have hl2:W.cell? ⟨N+5,0,none⟩=some (.slice a0 n n):=by
  rw[<- hW];exact(j2t (j3j _ _ (by omega))).trans hl1
 have r2:W.heap[N+4]?=w0.heap[N+4]?:=by
  rw[<- hW];exact(j3j _ _ (by omega)).trans r1
 have q2:W.heap[N+5]?=w0.heap[N+5]?:=by
  rw[<- hW];exact(j3j _ _ (by omega)).trans q1
 have hs2:W.heap.size=N+9:=by
  rw[<- hW];show(Array.push _ _).size=_;rw[Array.size_push,e8]
 rw[e8];replace hF:RK N b W W:=hF.base λb' h _=>by rw[<- hW];exact j3j _ _ (by omega)
 rw[hW];clear hW;refine Goes.step rfl λwv kz=>?_;replace hF:=RK.rely hF kz;clear kz;have hu2:=(hF.block (N+8) (by omega) (by omega)).trans hu;have c0:wv.cell? ⟨N+8,0,none⟩=some (.int .i64 0):=by simp[World.cell?,hu2]
 have c1:wv.cell? ⟨N+8,1,none⟩=some (.int .i64 0):=by simp[World.cell?,hu2]
 refine goes_oper_k rfl rfl (by k_ne) λK hK=>?_;have sa:=λ(w:World) (ad:Addr) (m:Mode)=>run_store Tryz.prog w ad a m ha;have sb:=λ(w:World) (ad:Addr) (m:Mode)=>run_store Tryz.prog w ad b m hb;have f0:wv.frozen? ⟨N+8,0,none⟩=false:=by simp[World.frozen?,hu2]
 have f1:wv.frozen? ⟨N+8,1,none⟩=false:=by simp[World.frozen?,hu2]
 go_simp;refine hK _ _ ⟨⟨rfl,rfl,rfl,(by simp),λb' hb' _=>?_,λe he=>?_⟩,?_⟩
 ·rw[Below.heap_setCell _ _ _ _ (by show b'≠N+8;omega),Below.heap_setCell _ _ _ _ (by show b'≠N+8;omega)]
 ·have hm:=mem_listed he;have ea:=λ(w:World) (es:Array Event) (ad:Addr) (m:Mode)=>events_store Tryz.prog w es ad a m ha;have eb:=λ(w:World) (es:Array Event) (ad:Addr) (m:Mode)=>events_store Tryz.prog w es ad b m hb;simp[go_sem,storedEv, *]at hm;rcases hm with rfl|rfl<;>exact jf6 _ _ (.inr (.inr (Nat.le_refl _))) (by show N+8<B;omega)
 clear hK K sa sb;have r3:wv.heap[N+4]?=w0.heap[N+4]?:=(hF.block (N+4) (by omega) (by omega)).trans r2;have q3:wv.heap[N+5]?=w0.heap[N+5]?:=(hF.block (N+5) (by omega) (by omega)).trans q2;have hl3:wv.cell? ⟨N+5,0,none⟩=some (.slice a0 n n):=(j2t (hF.block (N+5) (by omega) (by omega))).trans hl2;obtain⟨V,hV⟩:∃V,(wv.setCell ⟨N+8,0,none⟩ a).setCell ⟨N+8,1,none⟩ b=V:=⟨_,rfl⟩;have hv:∀b',b'≠N+8->V.heap[b']?=wv.heap[b']?:=λb' h=>by
  rw[<- hV,Below.heap_setCell _ _ _ _ (by show b'≠N+8;omega),Below.heap_setCell _ _ _ _ (by show b'≠N+8;omega)]
 have hu3:V.heap[N+8]?=some (.cells #[a,b] 76):=by
  rw[<- hV];simp[World.setCell,hu2,Array.getElem?_modify]
 have hs3:V.heap.size=N+9:=by
  rw[<- hV];simp[hF.size,hs2]
 have r4:V.heap[N+4]?=w0.heap[N+4]?:=(hv _ (by omega)).trans r3;have q4:V.heap[N+5]?=w0.heap[N+5]?:=(hv _ (by omega)).trans q3;have hl4:V.cell? ⟨N+5,0,none⟩=some (.slice a0 n n):=(j2t (hv _ (by omega))).trans hl3;replace hF:RK N b V V:=hF.base λb' h _=>hv _ (by omega);rw[hV];clear hV;refine calm (m2:=18) (m1:=10) jci j8y ?_;u_c stepG_region_end (RK.rely) hF;u_reg (RK.rely) hF;refine Goes.stop λwu ku=>?_;replace hF:=RK.rely hF ku;clear ku;refine Goes.step rfl λwu ku=>?_;replace hF:=RK.rely hF ku;clear ku;have hl5:wu.cell? ⟨N+5,0,none⟩=some (.slice a0 n n):=(j2t (hF.block (N+5) (by omega) (by omega))).trans hl4;refine goes_oper_k rfl rfl (by k_ne) λK hK=>?_;go_simp;refine hK _ _ ⟨jf3 (λe he=>?_),?_⟩
 ·have hm:=mem_listed he;simp[go_sem,hl5]at hm;subst hm;exact jf6 _ _ (.inr (.inl rfl)) (by show N+5<B;omega)
 clear hK K hl5;refine Goes.step rfl λwu ku=>?_;replace hF:=RK.rely hF ku;clear ku;have hu5:=(hF.block (N+8) (by omega) (by omega)).trans hu3;have d0:wu.cell? ⟨N+8,0,none⟩=some a:=by simp[World.cell?,hu5]
 have d1:wu.cell? ⟨N+8,1,none⟩=some b:=by simp[World.cell?,hu5]
 refine goes_oper_k rfl rfl (by k_ne) λK hK=>?_;go_simp;refine hK _ _ ⟨jf3 (λe he=>?_),?_⟩
 ·have hm:=mem_listed he;simp[go_sem,d0,d1]at hm;rcases hm with rfl|rfl<;>exact jf6 _ _ (.inr (.inr (Nat.le_refl _))) (by show N+8<B;omega)
 clear hK K hu5 d0 d1;refine Goes.step rfl λwu ku=>?_;replace hF:=RK.rely hF ku;clear ku;refine goes_oper_k rfl rfl (by k_ne) λK hK=>?_;go_simp;have hsz3:wu.heap.size=N+9:=hF.size.trans hs3;have r5:wu.heap[N+4]?=w0.heap[N+4]?:=(hF.block (N+4) (by omega) (by omega)).trans r4;have q5:wu.heap[N+5]?=w0.heap[N+5]?:=(hF.block (N+5) (by omega) (by omega)).trans q4;have hl6:wu.cell? ⟨N+5,0,none⟩=some (.slice a0 n n):=(j2t (hF.block (N+5) (by omega) (by omega))).trans hl4;refine hK _ _ ⟨⟨rfl,rfl,rfl,(by show _<=(Array.push _ _).size;rw[Array.size_push];omega),λb' hb' _=>?_,λe he=>?_⟩,?_⟩
 ·exact j3j _ _ (by omega)
 ·have hm:=mem_listed he;simp[go_sem]at hm
 clear hK K;rw[hsz3];obtain⟨U,hU⟩:∃U,wu.alloc (.cells #[a,b] 76)=U:=⟨_,rfl⟩;have hr:U.heap[N+9]?=some (.cells #[a,b] 76):=by
  rw[<- hU];simp only[World.alloc];rw[<- hsz3,Array.getElem?_push_size]
 have hs4:U.heap.size=N+10:=by
  rw[<- hU];show(Array.push _ _).size=_;rw[Array.size_push,hsz3]
 have hold:∀b',b'<N+9->U.heap[b']?=wu.heap[b']?:=λb' h=>by
  rw[<- hU];exact j3j _ _ (by omega)
 have r6:U.heap[N+4]?=w0.heap[N+4]?:=(hold _ (by omega)).trans r5;have q6:U.heap[N+5]?=w0.heap[N+5]?:=(hold _ (by omega)).trans q5;have hl7:U.cell? ⟨N+5,0,none⟩=some (.slice a0 n n):=(j2t (hold _ (by omega))).trans hl6;have hu9:U.heap[N+8]?=some (.cells #[a,b] 76):=by
  rw[hold _ (by omega)];exact(hF.block _ (by omega) (by omega)).trans hu3
 replace hF:RK N b U U:=hF.base λb' h _=>hold _ (by omega);rw[hU];clear hU;refine Goes.step rfl λwa ka=>?_;replace hF:=RK.rely hF ka;clear ka;have hrow4:wa.heap[N+4]?=some (.cells row.toArray 76):=((hF.block (N+4) (by omega) (by omega)).trans r6).trans hrow0;have q7:wa.heap[N+5]?=w0.heap[N+5]?:=(hF.block (N+5) (by omega) (by omega)).trans q6;have h94:wa.heap[N+9]?=some (.cells #[a,b] 76):=(hF.block (N+9) (by omega) (by omega)).trans hr;have h84:wa.heap[N+8]?=some (.cells #[a,b] 76):=(hF.block (N+8) (by omega) (by omega)).trans hu9;have hsz4:wa.heap.size=N+10:=hF.size.trans hs4;have hnews:∀j v,([a,b]:List Value)[j]?=some v->wa.cell? ((⟨N+9,0,none⟩:Addr).add j)=some v:=λj v h=>by
  rw[jao];simp[World.cell?,h94,h]
 have hrun:=run_append_grow (P:=Tryz.prog) (w:=wa) 58 58 76 Tryz.t76 _ Tryz.underlying58 rfl rfl ⟨N+4,0,none⟩ n n row
  hrl (λj v h=>by
   rw[jao];simp[World.cell?,hrow4,h]) ⟨N+9,0,none⟩ 1 1 [a,b] rfl hnews (by omega) (by omega) (growslice_fits (by omega) (by show(n+1)*16<=_;omega))
 subst ha0;refine goes_oper_k rfl rfl (by k_ne) λK hK=>?_;simp[execOp,resolve,invoke,builtin,Act.eval,hrun,Result.andThen];rw[hsz4];obtain⟨k,hk⟩:∃k,grownCap wa (n+1) n 76=cutq n k:=⟨_,rfl⟩;rw[hk];refine hK _ _ ⟨⟨rfl,rfl,rfl,(by show _<=(Array.push _ _).size;rw[Array.size_push];exact Nat.le_succ _),λb' hb' _=>j6t _ _ (by omega),λe he=>?_⟩,?_⟩
 ·have hm:=mem_listed he;replace hm:e∈(Builtin.append_ #[58,58] 58 #[.slice (some ⟨N+4,0,none⟩) n n,.slice (some ⟨N+9,0,none⟩) 1 1]).events Tryz.prog wa #[]:=by simpa[go_sem,execOp,resolve,invoke,builtin,Act.eval]using hm
  have hown:wa.ownsRow 0 76 2 (.slice (some ⟨N+4,0,none⟩) n n) n row:=⟨hrl,.inr ⟨N+4,n,row.toArray,rfl,Nat.zero_le _,hrow4,Nat.le_refl _,by simp only[maxLen];omega,by simpa using hrl,by simpa using List.take_of_length_le (by omega)⟩⟩;rcases events_append_where (P:=Tryz.prog) wa 0 58 58 76 Tryz.t76 _ 2 16 Tryz.underlying58 rfl rfl rfl rfl (.slice (some ⟨N+4,0,none⟩) n n) n row hown ⟨N+9,0,none⟩ 1 1 [a,b] rfl hnews (by simp[ha,hb]) (by simp only[maxLen];omega) (by omega) e hm with⟨ad,h1,h2⟩|⟨m,rfl,h⟩
  ·obtain⟨loc,wr,sy⟩:=e;simp only at h1 h2;subst h1;rcases h2 with⟨_,h2⟩|h2
   ·exact jph _ _ _ (.inr (.inr (by rw[h2];exact Nat.le_succ _))) (by rw[h2];omega)
   ·exact jph _ _ _ (.inl (Option.some.inj h2)) (by rw[Option.some.inj h2];show N+4<B;omega)
  ·exact jj8 h
 clear hK K hrun hnews;obtain⟨Z,hZ⟩:∃Z,wa.drew.alloc (.cells ((row++[a,b]).toArray++Builtin.zeroCells (Value.agg #[Value.int IntKind.i64 0,Value.int IntKind.i64 0]).cells (cutq n k-(n+1))) 76)=Z:=⟨_,rfl⟩;have hz10:Z.heap[N+10]?=some (.cells (rsq n k row a b) 76):=by
  rw[<- hZ];simp only[World.alloc];rw[<- hsz4];exact Array.getElem?_push_size
 have hsz5:Z.heap.size=N+11:=by
  rw[<- hZ];show(Array.push _ _).size=_;rw[Array.size_push];show wa.heap.size+1=_;omega
 have hold5:∀b',b'<N+10->Z.heap[b']?=wa.heap[b']?:=λb' h=>by
  rw[<- hZ];exact j6t _ _ (by omega)
 have q8:=(hold5 (N+5) (by omega)).trans (q7.trans hlogB);have z8:=(hold5 (N+8) (by omega)).trans h84;have z9:=(hold5 (N+9) (by omega)).trans h94;replace hF:RK N b Z Z:=hF.base λb' h _=>hold5 _ (by omega);rw[hZ];clear hZ
 walk_nrm
 refine Goes.step rfl λww kx=>?_;replace hF:=RK.rely hF kx;clear kx;have q9:=(hF.block (N+5) (by omega) (by omega)).trans q8;have hl10:ww.cell? ⟨N+5,0,none⟩=some (.slice (some ⟨N+4,0,none⟩) n n):=by simp[World.cell?,q9]
 have fz:ww.frozen? ⟨N+5,0,none⟩=false:=by simp[World.frozen?,q9]
 refine goes_oper_k rfl rfl (by k_ne) λK hK=>?_;go_simp;refine hK _ _ ⟨⟨rfl,rfl,rfl,(by simp),λb' hb' hne=>?_,λe he=>?_⟩,?_⟩
 ·rw[Below.heap_setCell _ _ _ _ hne]
 ·have hm:=mem_listed he;simp[go_sem]at hm;rw[events_store Tryz.prog ww #[] ⟨N+5,0,none⟩ _ _ rfl]at hm;simp[storedEv,hl10,fz]at hm;subst hm;exact jf6 _ _ (.inr (.inl rfl)) (by show N+5<B;omega)
 clear hK K;obtain⟨Y,hY⟩:∃Y,ww.setCell ⟨N+5,0,none⟩ (.slice (some ⟨N+10,0,none⟩) (n+1) (cutq n k))=Y:=⟨_,rfl⟩;have hy:∀b',b'≠N+5->Y.heap[b']?=ww.heap[b']?:=λb' h=>by
  rw[<- hY,Below.heap_setCell _ _ _ _ (by show b'≠N+5;omega)]
 have y5:Y.heap[N+5]?=some (.cells #[.slice (some ⟨N+10,0,none⟩) (n+1) (cutq n k)] 58):=by
  rw[<- hY];simp[World.setCell,q9,Array.getElem?_modify]
 have hyF:FinR N n a b row Y:=by
  refine⟨?_,?_,?_,k,y5,?_⟩
  ·rw[<- hY];simp[hF.size,hsz5]
  ·exact(hy _ (by omega)).trans ((hF.block _ (by omega) (by omega)).trans z8)
  ·exact(hy _ (by omega)).trans ((hF.block _ (by omega) (by omega)).trans z9)
  ·exact(hy _ (by omega)).trans ((hF.block _ (by omega) (by omega)).trans hz10)
 replace hF:RK N b Y Y/\FinR N n a b row Y:=⟨hF.base λb' _ h=>hy _ h,hyF⟩;rw[hY];clear hY;refine calm (m2:=4) (m1:=9) jci j8y ?_;u_c stepG_region_end (j74) hF;u_c stepG_inBlock (j74) hF;u_c stepG_inLoop (j74) hF;u_c stepG_seq (j74) hF;u_reg (j74) hF;refine Goes.stop λwz kv=>?_;replace hF:=j74 hF kv;clear kv;refine Goes.stop λwz kv=>?_;replace hF:=j74 hF kv;clear kv;refine⟨rfl,rfl,hF.2,_,_,stepG_comm (cases:=#[rcase (N+2) _]) (blocking:=true) (shape:=.recv true) (w':=wz) rfl rfl (by k_ne) (by simp[go_sem,execOp,rcase,Act.eval];rfl),λe he=>?_,?_⟩
 ·have hm:=mem_listed he;simp[go_sem,execOp,Act.eval]at hm
 have hK:WgLive Tryz.link.tWg (N+7) wz/\Has (N+6) (2-1) b wz:=⟨hF.1.k,hF.1.v1⟩;refine⟨7+23,?_⟩;rw[served_G];unfold ToDone;simp only[recvd,if_true]
 walk_nrm
 u_op kn_rely hK
 u_c stepG_region_end kn_rely hK;u_c stepG_seq kn_rely hK
 u_cond false kn_rely hK
 refine Goes.step rfl λwv kz=>?_;replace hK:=kn_rely hK kz;clear kz;rw[stepG_exit (k':=[]) rfl];simp only[goes_go];refine⟨by u_nil,?_⟩;u_c stepG_end kn_rely hK
 u_in kn_rely hK
 rw[stepG_unwind_enter rfl Tryz.wgLib.f_done (nm_done Tryz.link) rfl];simp only[goes_go];refine⟨by u_nil,?_⟩
 walk_nrmf doneFn
 have hA:=λ(T:Array Value) (W:World) hK=>@toDoneG Tryz.link _ Tryz.prog Tryz.wgLib N 2 b _ [bot] 2 rfl (quitsR T) W hK;unfold ToDone at hA;simp only[body_done,doneFn,Option.getD_some]at hA;exact hA _ _ hK
end
open Go Go.Conc Go.RowKit
theorem Hp.drew {w0 w:World}{bs:Array Obj}(h:Hp w0 bs w):Hp w0 bs w.drew:=⟨h.heap,h.tape,h.os,h.output⟩
noncomputable def bs11 (N:Nat)(C0 C1:Array Value)(n k:Nat)(q2 q3 q7:Obj)(row:List Value)(x y:Value):Array Obj:=
 #[.cells C0 60,.cells C1 60,q2,q3,.cells row.toArray 76,.cells #[.slice (some ⟨N+10,0,none⟩) (n+1) (cutq n k)] 58,.cells #[x,y] 76,q7,
  .cells #[x,y] 76,.cells #[x,y] 76,.cells (rsq n k row x y) 76]
theorem jjz {Stop:Goroutine->World->Prop}{b:Frame}{cs:List Frame}(hcs:cs≠[])(hbk:b.kind≠.early)(hro:b.roundOf=none){N k:Nat}(w0:World)(hN:w0.heap.size=N)(hk:∀d q,w0.tape d q=k)
  {C0 C1:Array Value}{n:Nat}(hn:n<13){row:List Value}(hrl:row.length=n*2){x y:Value}(ox:x.oneCell'=true)(oy:y.oneCell'=true){q2 q3 q7:Obj}
  (w:World)(hH:Hp w0 (bs8 N C0 C1 n q2 q3 q7 row.toArray x y) w)(u0 u1 u2 u3 u4 u5 u7 u8 u9 u10 u11 u12 u13 u14 u15 u16 u17 u18 u20 u21 u22 u23 u24 u25 u26 u27 u28 u29 u30 u31 u32 u33 u34 u35 u36 u37 u38 u39:Value)(R:List Value)
  (hgo:∀w',Hp w0 (bs11 N C0 C1 n k q2 q3 q7 row x y) w'->∀T:Array Value,T[4]?=some (.slice (some ⟨N+10,0,none⟩) (n+1) (cutq n k))->∀todo,Stop (G { b.at ⟨T,[]⟩ todo with mode:=.returning } cs) w') :
  LW tnp Stop (G (b.at ⟨(u0::u1::u2::u3::u4::u5::.pointer (some ⟨N+5,0,none⟩)::u7::u8::u9::u10::u11::u12::u13::u14::u15::u16::u17::u18::.agg #[x,y]::u20::u21::u22::u23::u24::u25::u26::u27::u28::u29::u30::u31::u32::u33::u34::u35::u36::u37::u38::u39::R).toArray,[]⟩ [.code (.seq Twn.passDo .ret)]) cs) w:=by
 subst hN;refine LW.go hcs ?_;rw[stepG_seq];simp only[goes_go];unfold Twn.passDo;refine LW.go hcs ?_;rw[stepG_region];simp only[goes_go,List.size_toArray,List.length_cons,List.length_nil,Nat.reduceAdd,Nat.zero_add,List.range,List.range.loop];refine LW.go hcs ?_;refine goes_oper_k rfl rfl hbk λK hK=>?_;go_simp;refine hK _ _ ?_;clear hK K;try walk_nrm
 have s8:w.heap.size=w0.heap.size+8:=hH.size;obtain⟨w1,e1⟩:∃w1,w.alloc (.cells #[.int .i64 0,.int .i64 0] 76)=w1:=⟨_,rfl⟩;have H1:Hp w0 ((bs8 w0.heap.size C0 C1 n q2 q3 q7 row.toArray x y).push (.cells #[.int .i64 0,.int .i64 0] 76)) w1:=e1▸hH.alloc _;rw[e1,s8];clear e1 hH s8;have hst:=λ(w:World) (ad:Addr) (m:Mode)=>run_store tnp w ad x m ox;have hst':=λ(w:World) (ad:Addr) (m:Mode)=>run_store tnp w ad y m oy;have c0:w1.cell? ⟨w0.heap.size+8,0,none⟩=some (.int .i64 0):=H1.cell (k:=8) rfl;have c1:w1.cell? ⟨w0.heap.size+8,1,none⟩=some (.int .i64 0):=H1.cell (k:=8) rfl;have f0:w1.frozen? ⟨w0.heap.size+8,0,none⟩=false:=H1.frozen (k:=8) rfl;have f1:w1.frozen? ⟨w0.heap.size+8,1,none⟩=false:=H1.frozen (k:=8) rfl;refine LW.go hcs ?_;refine goes_oper_k rfl rfl hbk λK hK=>?_;go_simp;refine hK _ _ ?_;clear hK K;try walk_nrm
 clear hst hst' c0 c1 f0 f1;obtain⟨w2,e2⟩:∃w2,(w1.setCell ⟨w0.heap.size+8,0,none⟩ x).setCell ⟨w0.heap.size+8,1,none⟩ y=w2:=⟨_,rfl⟩;have H2:Hp w0 ((bs8 w0.heap.size C0 C1 n q2 q3 q7 row.toArray x y).push (.cells #[x,y] 76)) w2:=by
  rw[<- e2];exact(H1.set (k:=8) (off:=0) rfl x).set (k:=8) (off:=1) rfl y
 rw[e2];clear e2 H1;have c5:w2.cell? ⟨w0.heap.size+5,0,none⟩=some (.slice (some ⟨w0.heap.size+4,0,none⟩) n n):=H2.cell (k:=5) rfl;refine LW.go hcs ?_;refine goes_oper_k rfl rfl hbk λK hK=>?_;go_simp;refine hK _ _ ?_;clear hK K;try walk_nrm
 clear c5;have c0:w2.cell? ⟨w0.heap.size+8,0,none⟩=some x:=H2.cell (k:=8) rfl;have c1:w2.cell? ⟨w0.heap.size+8,1,none⟩=some y:=H2.cell (k:=8) rfl;refine LW.go hcs ?_;refine goes_oper_k rfl rfl hbk λK hK=>?_;go_simp;refine hK _ _ ?_;clear hK K;try walk_nrm
 clear c0 c1;refine LW.go hcs ?_;refine goes_oper_k rfl rfl hbk λK hK=>?_;go_simp;refine hK _ _ ?_;clear hK K;try walk_nrm
 have s2:w2.heap.size=w0.heap.size+9:=H2.size;obtain⟨w3,e3⟩:∃w3,w2.alloc (.cells #[x,y] 76)=w3:=⟨_,rfl⟩;have H3:Hp w0 (((bs8 w0.heap.size C0 C1 n q2 q3 q7 row.toArray x y).push (.cells #[x,y] 76)).push (.cells #[x,y] 76)) w3:=e3▸H2.alloc _;rw[e3,s2];clear e3 H2 s2;have s3:w3.heap.size=w0.heap.size+10:=H3.size;have hrun:=run_append_grow (P:=tnp) (w:=w3) 58 58 76 Tryz.t76 _ Twn.underlying58 (by rw[j7b Twn.tables];kernel_rfl) rfl ⟨w0.heap.size+4,0,none⟩ n n row
  hrl (λj v h=>by
   rw[jao,H3.cell (k:=4) (c:=row.toArray) rfl];simpa using h) ⟨w0.heap.size+9,0,none⟩ 1 1 [x,y] rfl (λj v h=>by
   rw[jao,H3.cell (k:=9) (c:=#[x,y]) rfl];simpa using h) (by omega) (by omega) (growslice_fits (by omega) (by show(n+1)*16<=_;omega))
 rw[s3]at hrun;have hcap:grownCap w3 (n+1) n 76=cutq n k:=by
  unfold grownCap cutq;rw[H3.tape,hk]
 rw[hcap]at hrun;refine LW.go hcs ?_;refine goes_oper_k rfl rfl hbk λK hK=>?_;simp[execOp,resolve,invoke,builtin,Act.eval,Result.andThen,hrun];refine hK _ _ ?_;clear hK K;try walk_nrm
 clear hrun hcap;obtain⟨w4,e4⟩:∃w4,w3.drew.alloc (.cells (rsq n k row x y) 76)=w4:=⟨_,rfl⟩;have H4:Hp w0 ((((bs8 w0.heap.size C0 C1 n q2 q3 q7 row.toArray x y).push (.cells #[x,y] 76)).push (.cells #[x,y] 76)).push (.cells (rsq n k row x y) 76)) w4:=e4▸H3.drew.alloc _;have e4':w3.drew.alloc (.cells ((row++[x,y]).toArray++Builtin.zeroCells (Value.agg #[Value.int IntKind.i64 0,Value.int IntKind.i64 0]).cells (cutq n k-(n+1))) 76)=w4:=e4;rw[e4'];clear e4 e4' H3 s3;have c5:w4.cell? ⟨w0.heap.size+5,0,none⟩=some (.slice (some ⟨w0.heap.size+4,0,none⟩) n n):=H4.cell (k:=5) rfl;have f5:w4.frozen? ⟨w0.heap.size+5,0,none⟩=false:=H4.frozen (k:=5) rfl;refine LW.go hcs ?_;refine goes_oper_k rfl rfl hbk λK hK=>?_;go_simp;refine hK _ _ ?_;clear hK K;try walk_nrm
 clear c5 f5;obtain⟨w5,e5⟩:∃w5,w4.setCell ⟨w0.heap.size+5,0,none⟩ (.slice (some ⟨w0.heap.size+10,0,none⟩) (n+1) (cutq n k))=w5:=⟨_,rfl⟩;have H5:Hp w0 (bs11 w0.heap.size C0 C1 n k q2 q3 q7 row x y) w5:=e5▸H4.set (k:=5) (off:=0) rfl (.slice (some ⟨w0.heap.size+10,0,none⟩) (n+1) (cutq n k));rw[e5];clear e5 H4;have c5:w5.cell? ⟨w0.heap.size+5,0,none⟩=some (.slice (some ⟨w0.heap.size+10,0,none⟩) (n+1) (cutq n k)):=H5.cell (k:=5) rfl;refine LW.go hcs ?_;refine goes_oper_k rfl rfl hbk λK hK=>?_;go_simp;refine hK _ _ ?_;clear hK K;try walk_nrm
 clear c5;refine LW.go hcs ?_;refine goes_oper_k rfl rfl hbk λK hK=>?_;go_simp;refine hK _ _ ?_;clear hK K;try walk_nrm
 refine LW.go hcs ?_;rw[stepG_region_end];simp only[goes_go];refine LW.go hcs ?_;rw[stepG_ret'];simp only[goes_go];exact .stop (hgo _ H5 _ rfl _)
open Go Go.Conc Go.RowKit Go.Conc.Lib Go.ConcR.Gen Go.ConcN.Gen
theorem Hp.atr {w0 w wz:World}{bs:Array Obj}(h:Hp w0 bs w)(hr:AtRel w wz):Hp w0 bs wz:=by
 obtain⟨d,rfl⟩:=hr;exact⟨h.heap,h.tape,h.os,h.output⟩
def DE (S:Nat->Prop)(B:Nat)(_ _:World)(es:Array Event):Prop:=∀e∈es,EvL (shutL S) B e
theorem j6 {S:Nat->Prop}{B:Nat}{w w':World}:DE S B w w' #[]:=λe he=>by simp at he
theorem j5d {S:Nat->Prop}{B:Nat}{ad:Addr}{wr sy:Bool}(hS:¬S ad.block)(hB:ad.block<B):EvL (shutL S) B ⟨.cell ad,wr,sy⟩:=by
 refine⟨λx hx hs=>?_,by simp,by simp,?_⟩
 ·have:x.loc=.cell ad:=by
   cases wr<;>cases sy<;>simp[MemAct.ofEvent,MemAct.touch?]at hx<;>subst hx<;>rfl
  obtain⟨a,h1,h2⟩:=hs;rw[this]at h1;cases h1;exact absurd h2 hS
 ·cases wr<;>cases sy<;>exact hB
def qch:Obj:=.chan 0 #[] false 0 0 false
def qbx (N:Nat):Obj:=.cells #[.chan (some (N+2))] 143
def qwg:Obj:=.cells #[.int .u64 0,.int .u32 0] 152
def tailC:Code->Code
 | .seq _ b=>b
 | c=>c
noncomputable def rest5:Code:=tailC (tailC (tailC (tailC (tailC (Tryz.f116.body.getD .skip)))))
theorem jiv (w:World):(Instr.makeChan 143 (.int .i64 0)).events Tryz.prog w #[]=#[]:=by kernel_rfl
theorem jfr {S:Nat->Prop}{Stop:Goroutine->World->Prop}{b:Frame}{cs:List Frame}(hbk:b.kind≠.early)(w0:World)(hSo:∀b,S b->b<w0.heap.size)
  {C0 C1:Array Value}{a1:Addr}{n1 c1:Nat}{sp:Option Addr}{n c:Nat}(hF:PassF (.agg C0) (.agg C1) C0 C1 a1 n1 c1 sp n c)(u2 u3 u4 u5 u6 u7 u8 u9 u10 u11 u12 u13 u14 u15 u16 u17 u18 u19 u20 u21 u22 u23 u24:Value)(R:List Value)
  {row:Array Value}{x y:Value}(ox:x.oneCell'=true)(oy:y.oneCell'=true)
  (hcopy:∀V,Hp w0 #[.cells C0 60,.cells C1 60,qch,qbx w0.heap.size,.cells (zs n) 76] V->∃V',(Builtin.copy_ #[58,58] 3 #[.slice (some ⟨w0.heap.size+4,0,none⟩) n n,.slice sp n c]).run Tryz.prog V=.ok (goInt n) V' /\
   Hp w0 #[.cells C0 60,.cells C1 60,qch,qbx w0.heap.size,.cells row 76] V'/\∀e∈(Builtin.copy_ #[58,58] 3 #[.slice (some ⟨w0.heap.size+4,0,none⟩) n n,.slice sp n c]).events Tryz.prog V #[],EvL (shutL S) (w0.heap.size+7) e)
  (hload:∀V,Hp w0 #[.cells C0 60,.cells C1 60,qch,qbx w0.heap.size,.cells row 76,.cells #[.slice (some ⟨w0.heap.size+4,0,none⟩) n n] 58] V->(loadVar 76 (a1.add (n*2))).run Tryz.prog V=.ok (.agg #[x,y]) V /\
   ∀e∈(loadVar 76 (a1.add (n*2))).events Tryz.prog V #[],EvL (shutL S) (w0.heap.size+7) e)
  (hgo:∀w,Hp w0 (bs8 w0.heap.size C0 C1 n qch (qbx w0.heap.size) qwg row x y) w->∀z0 z1 z2 z3 z4 z9 z10 z11 z12 z13 z14 z15 z16 z17 z18 z19:Value,
   Stop (G (b.at ⟨(z0::z1::z2::z3::z4::.pointer (some ⟨w0.heap.size+3,0,none⟩)::.pointer (some ⟨w0.heap.size+5,0,none⟩)::.pointer (some ⟨w0.heap.size+6,0,none⟩)::.pointer (some ⟨w0.heap.size+7,0,none⟩)::z9::z10::z11::z12::z13::z14::z15::z16::z17::z18::z19::u20::u21::u22::u23::u24::R).toArray,[]⟩ [.code rest5]) cs) w) :
  Goes Tryz.prog true AtRel (DE S (w0.heap.size+7)) Stop 200 (G (b.at ⟨(.agg C0::.agg C1::u2::u3::u4::u5::u6::u7::u8::u9::u10::u11::u12::u13::u14::u15::u16::u17::u18::u19::u20::u21::u22::u23::u24::R).toArray,[]⟩ [.code (Tryz.f116.body.getD .skip)]) cs) w0:=by
 have hH:Hp w0 #[] w0:=Hp.start w0;have hnS:∀k,¬S (w0.heap.size+k):=λk h=>by have:=hSo _ h;omega
 have hnS0:¬S w0.heap.size:=hnS 0;simp only[Tryz.f116,Option.getD_some];refine Goes.step rfl λwz kv=>?_;replace hH:=hH.atr kv;clear kv;rw[stepG_seq];simp only[goes_go];refine⟨j6,?_⟩;refine Goes.step rfl λwz kv=>?_;replace hH:=hH.atr kv;clear kv;rw[stepG_region];simp only[goes_go,List.size_toArray,List.length_cons,List.length_nil,Nat.reduceAdd,Nat.zero_add,List.range,List.range.loop];refine⟨j6,?_⟩;refine Goes.step rfl λwz kv=>?_;replace hH:=hH.atr kv;clear kv;refine goes_oper_k rfl rfl hbk λK hK=>?_;go_simp;refine hK _ _ ⟨λe he=>?_,?_⟩
 ·have hm:=mem_listed he;simp[go_sem,execOp,resolve,invoke,builtin,Act.eval]at hm
 clear hK K;try walk_nrm
 have sz:wz.heap.size=w0.heap.size:=hH.size;have hV:=hH.alloc (.cells C0 60);obtain⟨V,eV⟩:∃V,wz.alloc (.cells C0 60)=V:=⟨_,rfl⟩;rw[eV]at hV ⊢;rw[sz];replace hH:=hV;clear eV sz hV;refine Goes.step rfl λwz kv=>?_;replace hH:=hH.atr kv;clear kv;refine goes_oper_k rfl rfl hbk λK hK=>?_;go_simp;refine hK _ _ ⟨λe he=>?_,?_⟩
 ·have hm:=mem_listed he;simp[go_sem,execOp,resolve,invoke,builtin,Act.eval]at hm
 clear hK K;try walk_nrm
 have sz:wz.heap.size=w0.heap.size+1:=hH.size;have hV:=hH.alloc (.cells C1 60);obtain⟨V,eV⟩:∃V,wz.alloc (.cells C1 60)=V:=⟨_,rfl⟩;rw[eV]at hV ⊢;rw[sz];replace hH:=hV;clear eV sz hV;refine Goes.step rfl λwz kv=>?_;replace hH:=hH.atr kv;clear kv;refine goes_oper_k rfl rfl hbk λK hK=>?_;go_simp;refine hK _ _ ⟨λe he=>?_,?_⟩
 ·have hm:=mem_listed he;simp[go_sem,execOp,resolve,invoke,builtin,Act.eval]at hm
 clear hK K;try walk_nrm
 refine Goes.step rfl λwz kv=>?_;replace hH:=hH.atr kv;clear kv;rw[stepG_region_end];simp only[goes_go];refine⟨j6,?_⟩;refine Goes.step rfl λwz kv=>?_;replace hH:=hH.atr kv;clear kv;rw[stepG_seq];simp only[goes_go];refine⟨j6,?_⟩;refine Goes.step rfl λwz kv=>?_;replace hH:=hH.atr kv;clear kv;rw[stepG_region];simp only[goes_go,List.size_toArray,List.length_cons,List.length_nil,Nat.reduceAdd,Nat.zero_add,List.range,List.range.loop];refine⟨j6,?_⟩;refine Goes.step rfl λwz kv=>?_;replace hH:=hH.atr kv;clear kv;refine goes_oper_k rfl rfl hbk λK hK=>?_;go_simp;refine hK _ _ ⟨λe he=>?_,?_⟩
 ·have hm:=mem_listed he;simp[go_sem,execOp,Act.eval,jiv]at hm
 clear hK K
 walk_nrm
 have sz:wz.heap.size=w0.heap.size+2:=hH.size;have hV:=hH.alloc (.chan 0 #[] false 0 0 false);obtain⟨V,eV⟩:∃V,wz.alloc (.chan 0 #[] false 0 0 false)=V:=⟨_,rfl⟩;rw[eV]at hV;rw[show({ heap:=wz.heap.push (Obj.chan (Int.toNat 0) #[] false 0 0 false),tape:=wz.tape,drawn:=wz.drawn,os:=wz.os,output:=wz.output }:World)=V from eV];rw[sz];replace hH:=hV;clear eV sz hV;refine Goes.step rfl λwz kv=>?_;replace hH:=hH.atr kv;clear kv;refine goes_oper_k rfl rfl hbk λK hK=>?_;go_simp;refine hK _ _ ⟨λe he=>?_,?_⟩
 ·have hm:=mem_listed he;simp[go_sem,execOp,resolve,invoke,builtin,Act.eval]at hm
 clear hK K;try walk_nrm
 have sz:wz.heap.size=w0.heap.size+3:=hH.size;have hV:=hH.alloc (.cells #[.chan none] 143);obtain⟨V,eV⟩:∃V,wz.alloc (.cells #[.chan none] 143)=V:=⟨_,rfl⟩;rw[eV]at hV ⊢;rw[sz];replace hH:=hV;clear eV sz hV;refine Goes.step rfl λwz kv=>?_;replace hH:=hH.atr kv;clear kv;have cc:wz.cell? ⟨w0.heap.size+3,0,none⟩=some (.chan none):=hH.cell (k:=3) rfl;have cf:wz.frozen? ⟨w0.heap.size+3,0,none⟩=false:=hH.frozen (k:=3) rfl;refine goes_oper_k rfl rfl hbk λK hK=>?_;go_simp;refine hK _ _ ⟨λe he=>?_,?_⟩
 ·have hm:=mem_listed he;simp[go_sem,storedEv, *]at hm;subst hm;exact j5d (hnS 3) (by show w0.heap.size+3<_;omega)
 clear hK K cc cf;have hV:Hp w0 #[.cells C0 60,.cells C1 60,qch,qbx w0.heap.size] _:=hH.set (k:=3) (off:=0) rfl (.chan (some (w0.heap.size+2)));obtain⟨V,eV⟩:∃V,wz.setCell ⟨w0.heap.size+3,0,none⟩ (.chan (some (w0.heap.size+2)))=V:=⟨_,rfl⟩;rw[eV]at hV ⊢;replace hH:=hV;clear eV hV;refine Goes.step rfl λwz kv=>?_;replace hH:=hH.atr kv;clear kv;rw[stepG_region_end];simp only[goes_go];refine⟨j6,?_⟩;refine Goes.step rfl λwz kv=>?_;replace hH:=hH.atr kv;clear kv;rw[stepG_seq];simp only[goes_go];refine⟨j6,?_⟩;refine Goes.step rfl λwz kv=>?_;replace hH:=hH.atr kv;clear kv;rw[stepG_region];simp only[goes_go,List.size_toArray,List.length_cons,List.length_nil,Nat.reduceAdd,Nat.zero_add,List.range,List.range.loop];refine⟨j6,?_⟩;refine Goes.step rfl λwz kv=>?_;replace hH:=hH.atr kv;clear kv;refine goes_oper_k rfl rfl hbk λK hK=>?_;go_simp;refine hK _ _ ⟨λe he=>?_,?_⟩
 ·have hm:=mem_listed he;simp[go_sem,execOp,resolve,invoke,builtin,Act.eval]at hm
 clear hK K;try walk_nrm
 refine Goes.step rfl λwz kv=>?_;replace hH:=hH.atr kv;clear kv;have cc:wz.cell? ⟨w0.heap.size+1,1,none⟩=some (.slice sp n c):=(hH.cell (k:=1) rfl).trans hF.l1;refine goes_oper_k rfl rfl hbk λK hK=>?_;go_simp;refine hK _ _ ⟨λe he=>?_,?_⟩
 ·have hm:=mem_listed he;simp[go_sem,storedEv, *]at hm;subst hm;exact j5d (hnS 1) (by show w0.heap.size+1<_;omega)
 clear hK K cc;refine Goes.step rfl λwz kv=>?_;replace hH:=hH.atr kv;clear kv;refine goes_call rfl rfl hbk rfl Tryz.func120 (by kernel_rfl) rfl ⟨j6,?_⟩
 walk_nrmf Tryz.f120
 have hbk0:=hbk;replace hbk:(base 120).kind≠.early:=base_kind _;refine Goes.step rfl λwz kv=>?_;replace hH:=hH.atr kv;clear kv;rw[stepG_seq];simp only[goes_go];refine⟨j6,?_⟩;refine Goes.step rfl λwz kv=>?_;replace hH:=hH.atr kv;clear kv;rw[stepG_region];simp only[goes_go,List.size_toArray,List.length_cons,List.length_nil,Nat.reduceAdd,Nat.zero_add,List.range,List.range.loop];refine⟨j6,?_⟩;refine Goes.step rfl λwz kv=>?_;replace hH:=hH.atr kv;clear kv;refine goes_oper_k rfl rfl hbk λK hK=>?_;go_simp;refine hK _ _ ⟨λe he=>?_,?_⟩
 ·have hm:=mem_listed he;simp[go_sem,execOp,resolve,invoke,builtin,Act.eval]at hm
 clear hK K;try walk_nrm
 refine Goes.step rfl λwz kv=>?_;replace hH:=hH.atr kv;clear kv;rw[stepG_region_end];simp only[goes_go];refine⟨j6,?_⟩;refine Goes.step rfl λwz kv=>?_;replace hH:=hH.atr kv;clear kv;rw[stepG_seq];simp only[goes_go];refine⟨j6,?_⟩;refine Goes.step rfl λwz kv=>?_;replace hH:=hH.atr kv;clear kv;rw[stepG_region];simp only[goes_go,List.size_toArray,List.length_cons,List.length_nil,Nat.reduceAdd,Nat.zero_add,List.range,List.range.loop];refine⟨j6,?_⟩;refine Goes.step rfl λwz kv=>?_;replace hH:=hH.atr kv;clear kv;refine goes_oper_k rfl rfl hbk λK hK=>?_;go_simp;refine hK _ _ ⟨λe he=>?_,?_⟩
 ·have hm:=mem_listed he;simp[go_sem,execOp,resolve,invoke,builtin,Act.eval]at hm
 clear hK K;try walk_nrm
 refine Goes.step rfl λwz kv=>?_;replace hH:=hH.atr kv;clear kv;refine goes_oper_k rfl rfl hbk λK hK=>?_;go_simp;refine hK _ _ ⟨λe he=>?_,?_⟩
 ·have hm:=mem_listed he;simp[go_sem,execOp,resolve,invoke,builtin,Act.eval]at hm
 clear hK K;try walk_nrm
 have hmk:=λw=>jun (P:=Tryz.prog) rfl w hF.le;refine Goes.step rfl λwz kv=>?_;replace hH:=hH.atr kv;clear kv;refine goes_oper_k rfl rfl hbk λK hK=>?_;simp[execOp,resolve,invoke,builtin,Act.eval,Result.andThen,hmk];refine hK _ _ ⟨λe he=>?_,?_⟩
 ·have hm:=mem_listed he;replace hm:e∈(Instr.makeSlice 58 (.int .i64 n) (.int .i64 n)).events Tryz.prog wz #[]:=by simpa[go_sem,execOp,Act.eval]using hm
  have hev:=events_make (P:=Tryz.prog) wz 58 76 Tryz.t76 (.agg #[.int .i64 0,.int .i64 0]) Tryz.underlying58 (by kernel_rfl) rfl .i64 .i64 n n (by omega) (by omega) (by show(16:Int)*n<=_;have:=hF.le;omega) (by have:=hF.le;omega) (by show(n:Int).toNat*16<=_;have:=hF.le;omega) #[];rw[hev]at hm;simp at hm
 clear hK K hmk
 walk_nrm
 have sz:wz.heap.size=w0.heap.size+4:=hH.size;have hV:=hH.alloc (.cells (zs n) 76);obtain⟨V,eV⟩:∃V,wz.alloc (.cells (zs n) 76)=V:=⟨_,rfl⟩;rw[eV]at hV ⊢;rw[sz];replace hH:=hV;clear eV sz hV;refine Goes.step rfl λwz kv=>?_;replace hH:=hH.atr kv;clear kv;refine goes_oper_k rfl rfl hbk λK hK=>?_;go_simp;refine hK _ _ ⟨λe he=>?_,?_⟩
 ·have hm:=mem_listed he;simp[go_sem,execOp,resolve,invoke,builtin,Act.eval]at hm
 clear hK K;try walk_nrm
 refine Goes.step rfl λwz kv=>?_;replace hH:=hH.atr kv;clear kv;rw[stepG_region_end];simp only[goes_go];refine⟨j6,?_⟩;refine Goes.step rfl λwz kv=>?_;replace hH:=hH.atr kv;clear kv;rw[stepG_seq];simp only[goes_go];refine⟨j6,?_⟩;refine Goes.step rfl λwz kv=>?_;replace hH:=hH.atr kv;clear kv;rw[stepG_region];simp only[goes_go,List.size_toArray,List.length_cons,List.length_nil,Nat.reduceAdd,Nat.zero_add,List.range,List.range.loop];refine⟨j6,?_⟩;refine Goes.step rfl λwz kv=>?_;replace hH:=hH.atr kv;clear kv;refine goes_oper_k rfl rfl hbk λK hK=>?_;go_simp;refine hK _ _ ⟨λe he=>?_,?_⟩
 ·have hm:=mem_listed he;simp[go_sem,execOp,resolve,invoke,builtin,Act.eval]at hm
 clear hK K;try walk_nrm
 refine Goes.step rfl λwz kv=>?_;replace hH:=hH.atr kv;clear kv;refine goes_oper_k rfl rfl hbk λK hK=>?_;go_simp;refine hK _ _ ⟨λe he=>?_,?_⟩
 ·have hm:=mem_listed he;simp[go_sem,execOp,resolve,invoke,builtin,Act.eval]at hm
 clear hK K;try walk_nrm
 refine Goes.step rfl λwz kv=>?_;replace hH:=hH.atr kv;clear kv;obtain⟨V,hr,hV,hev⟩:=hcopy wz hH;refine goes_oper_k rfl rfl hbk λK hK=>?_;simp[execOp,resolve,invoke,builtin,Act.eval,Result.andThen,hr];refine hK _ _ ⟨λe he=>?_,?_⟩
 ·have hm:=mem_listed he;exact hev e (by simpa[go_sem,execOp,resolve,invoke,builtin,Act.eval]using hm)
 clear hK K hcopy hr hev;replace hH:=hV;clear hV
 walk_nrm
 refine Goes.step rfl λwz kv=>?_;replace hH:=hH.atr kv;clear kv;rw[stepG_region_end];simp only[goes_go];refine⟨j6,?_⟩;refine Goes.step rfl λwz kv=>?_;replace hH:=hH.atr kv;clear kv;rw[stepG_seq];simp only[goes_go];refine⟨j6,?_⟩;refine Goes.step rfl λwz kv=>?_;replace hH:=hH.atr kv;clear kv;rw[stepG_region];simp only[goes_go,List.size_toArray,List.length_cons,List.length_nil,Nat.reduceAdd,Nat.zero_add,List.range,List.range.loop];refine⟨j6,?_⟩;refine Goes.step rfl λwz kv=>?_;replace hH:=hH.atr kv;clear kv;refine goes_oper_k rfl rfl hbk λK hK=>?_;go_simp;refine hK _ _ ⟨λe he=>?_,?_⟩
 ·have hm:=mem_listed he;simp[go_sem,execOp,resolve,invoke,builtin,Act.eval]at hm
 clear hK K;try walk_nrm
 refine Goes.step rfl λwz kv=>?_;replace hH:=hH.atr kv;clear kv;refine goes_oper_k rfl rfl hbk λK hK=>?_;go_simp;refine hK _ _ ⟨λe he=>?_,?_⟩
 ·have hm:=mem_listed he;simp[go_sem,execOp,resolve,invoke,builtin,Act.eval]at hm
 clear hK K;try walk_nrm
 refine Goes.step rfl λwz kv=>?_;replace hH:=hH.atr kv;clear kv;rw[stepG_region_end];simp only[goes_go];refine⟨j6,?_⟩;refine Goes.step rfl λwz kv=>?_;replace hH:=hH.atr kv;clear kv;rw[stepG_ret'];simp only[goes_go];refine⟨j6,?_⟩;refine Goes.step rfl λwz kv=>?_;replace hH:=hH.atr kv;clear kv;refine goes_leave1 rfl rfl Tryz.func120 rfl ⟨j6,?_⟩
 walk_nrm
 replace hbk:=hbk0;refine Goes.step rfl λwz kv=>?_;replace hH:=hH.atr kv;clear kv;refine goes_oper_k rfl rfl hbk λK hK=>?_;go_simp;refine hK _ _ ⟨λe he=>?_,?_⟩
 ·have hm:=mem_listed he;simp[go_sem,execOp,resolve,invoke,builtin,Act.eval]at hm
 clear hK K;try walk_nrm
 have sz:wz.heap.size=w0.heap.size+5:=hH.size;have hV:=hH.alloc (.cells #[.slice none 0 0] 58);obtain⟨V,eV⟩:∃V,wz.alloc (.cells #[.slice none 0 0] 58)=V:=⟨_,rfl⟩;rw[eV]at hV ⊢;rw[sz];replace hH:=hV;clear eV sz hV;refine Goes.step rfl λwz kv=>?_;replace hH:=hH.atr kv;clear kv;have cc:wz.cell? ⟨w0.heap.size+5,0,none⟩=some (.slice none 0 0):=hH.cell (k:=5) rfl;have cf:wz.frozen? ⟨w0.heap.size+5,0,none⟩=false:=hH.frozen (k:=5) rfl;refine goes_oper_k rfl rfl hbk λK hK=>?_;go_simp;refine hK _ _ ⟨λe he=>?_,?_⟩
 ·have hm:=mem_listed he;simp[go_sem]at hm;rw[events_store Tryz.prog wz #[] ⟨w0.heap.size+5,0,none⟩ _ _ rfl]at hm;simp[storedEv,cc,cf]at hm;subst hm;exact j5d (hnS 5) (by show w0.heap.size+5<_;omega)
 clear hK K cc cf;have hV:Hp w0 #[.cells C0 60,.cells C1 60,qch,qbx w0.heap.size,.cells row 76,.cells #[.slice (some ⟨w0.heap.size+4,0,none⟩) n n] 58] _:=hH.set (k:=5) (off:=0) rfl (.slice (some ⟨w0.heap.size+4,0,none⟩) n n);obtain⟨V,eV⟩:∃V,wz.setCell ⟨w0.heap.size+5,0,none⟩ (.slice (some ⟨w0.heap.size+4,0,none⟩) n n)=V:=⟨_,rfl⟩;rw[eV]at hV ⊢;replace hH:=hV;clear eV hV;refine Goes.step rfl λwz kv=>?_;replace hH:=hH.atr kv;clear kv;rw[stepG_region_end];simp only[goes_go];refine⟨j6,?_⟩;refine Goes.step rfl λwz kv=>?_;replace hH:=hH.atr kv;clear kv;rw[stepG_seq];simp only[goes_go];refine⟨j6,?_⟩;refine Goes.step rfl λwz kv=>?_;replace hH:=hH.atr kv;clear kv;rw[stepG_region];simp only[goes_go,List.size_toArray,List.length_cons,List.length_nil,Nat.reduceAdd,Nat.zero_add,List.range,List.range.loop];refine⟨j6,?_⟩;refine Goes.step rfl λwz kv=>?_;replace hH:=hH.atr kv;clear kv;refine goes_oper_k rfl rfl hbk λK hK=>?_;go_simp;refine hK _ _ ⟨λe he=>?_,?_⟩
 ·have hm:=mem_listed he;simp[go_sem,execOp,resolve,invoke,builtin,Act.eval]at hm
 clear hK K;try walk_nrm
 refine Goes.step rfl λwz kv=>?_;replace hH:=hH.atr kv;clear kv;have cc:wz.cell? ⟨w0.heap.size,1,none⟩=some (.slice (some a1) n1 c1):=(hH.cell (k:=0) rfl).trans hF.l0;refine goes_oper_k rfl rfl hbk λK hK=>?_;go_simp;refine hK _ _ ⟨λe he=>?_,?_⟩
 ·have hm:=mem_listed he;simp[go_sem,storedEv, *]at hm;subst hm;exact j5d (hnS0) (by show w0.heap.size<_;omega)
 clear hK K cc;refine Goes.step rfl λwz kv=>?_;replace hH:=hH.atr kv;clear kv;refine goes_oper_k rfl rfl hbk λK hK=>?_;go_simp;refine hK _ _ ⟨λe he=>?_,?_⟩
 ·have hm:=mem_listed he;simp[go_sem,execOp,resolve,invoke,builtin,Act.eval]at hm
 clear hK K;try walk_nrm
 refine Goes.step rfl λwz kv=>?_;replace hH:=hH.atr kv;clear kv;have cc:wz.cell? ⟨w0.heap.size+1,1,none⟩=some (.slice sp n c):=(hH.cell (k:=1) rfl).trans hF.l1;refine goes_oper_k rfl rfl hbk λK hK=>?_;go_simp;refine hK _ _ ⟨λe he=>?_,?_⟩
 ·have hm:=mem_listed he;simp[go_sem,storedEv, *]at hm;subst hm;exact j5d (hnS 1) (by show w0.heap.size+1<_;omega)
 clear hK K cc;refine Goes.step rfl λwz kv=>?_;replace hH:=hH.atr kv;clear kv;refine goes_oper_k rfl rfl hbk λK hK=>?_;go_simp;refine hK _ _ ⟨λe he=>?_,?_⟩
 ·have hm:=mem_listed he;simp[go_sem,execOp,resolve,invoke,builtin,Act.eval]at hm
 clear hK K;try walk_nrm
 have hix:=λw=>jq2 (P:=Tryz.prog) rfl w a1 c1 hF.lt;refine Goes.step rfl λwz kv=>?_;replace hH:=hH.atr kv;clear kv;refine goes_oper_k rfl rfl hbk λK hK=>?_;simp[execOp,resolve,invoke,builtin,Act.eval,Result.andThen,hix];refine hK _ _ ⟨λe he=>?_,?_⟩
 ·have hm:=mem_listed he;replace hm:e∈(Instr.indexAt 58 (.slice (some a1) n1 c1) (.int .i64 n)).events Tryz.prog wz #[]:=by simpa[go_sem,execOp,Act.eval]using hm
  simp[Instr.indexAt,asIntOf,go_sem,hF.lt]at hm
 clear hK K hix
 walk_nrm
 refine Goes.step rfl λwz kv=>?_;replace hH:=hH.atr kv;clear kv;obtain⟨hr,hev⟩:=hload wz hH;refine goes_oper_k rfl rfl hbk λK hK=>?_;simp[execOp,Act.eval,Result.andThen,Instr.loadAt,Instr.sureAddr,hr];refine hK _ _ ⟨λe he=>?_,?_⟩
 ·have hm:=mem_listed he;exact hev e (by simpa[go_sem,execOp,Act.eval,Instr.loadAt,Instr.sureAddr]using hm)
 clear hK K hload hr hev
 walk_nrm
 refine Goes.step rfl λwz kv=>?_;replace hH:=hH.atr kv;clear kv;refine goes_oper_k rfl rfl hbk λK hK=>?_;go_simp;refine hK _ _ ⟨λe he=>?_,?_⟩
 ·have hm:=mem_listed he;simp[go_sem,execOp,resolve,invoke,builtin,Act.eval]at hm
 clear hK K;try walk_nrm
 have sz:wz.heap.size=w0.heap.size+6:=hH.size;have hV:=hH.alloc (.cells #[.int .i64 0,.int .i64 0] 76);obtain⟨V,eV⟩:∃V,wz.alloc (.cells #[.int .i64 0,.int .i64 0] 76)=V:=⟨_,rfl⟩;rw[eV]at hV ⊢;rw[sz];replace hH:=hV;clear eV sz hV;refine Goes.step rfl λwz kv=>?_;replace hH:=hH.atr kv;clear kv;have c0:wz.cell? ⟨w0.heap.size+6,0,none⟩=some (.int .i64 0):=hH.cell (k:=6) rfl;have c1:wz.cell? ⟨w0.heap.size+6,1,none⟩=some (.int .i64 0):=hH.cell (k:=6) rfl;have f0:wz.frozen? ⟨w0.heap.size+6,0,none⟩=false:=hH.frozen (k:=6) rfl;have f1:wz.frozen? ⟨w0.heap.size+6,1,none⟩=false:=hH.frozen (k:=6) rfl;refine goes_oper_k rfl rfl hbk λK hK=>?_;have sa:=λ(w:World) (ad:Addr) (m:Mode)=>run_store Tryz.prog w ad x m ox;have sb:=λ(w:World) (ad:Addr) (m:Mode)=>run_store Tryz.prog w ad y m oy;go_simp;refine hK _ _ ⟨λe he=>?_,?_⟩
 ·have hm:=mem_listed he;have ea:=λ(w:World) (es:Array Event) (ad:Addr) (m:Mode)=>events_store Tryz.prog w es ad x m ox;have eb:=λ(w:World) (es:Array Event) (ad:Addr) (m:Mode)=>events_store Tryz.prog w es ad y m oy;simp[go_sem,storedEv, *]at hm;rcases hm with rfl|rfl<;>exact j5d (hnS 6) (by show w0.heap.size+6<_;omega)
 clear hK K sa sb c0 c1 f0 f1;have hV:=(hH.set (k:=6) (off:=0) rfl x).set (k:=6) (off:=1) rfl y;obtain⟨V,eV⟩:∃V,(wz.setCell ⟨w0.heap.size+6,0,none⟩ x).setCell ⟨w0.heap.size+6,1,none⟩ y=V:=⟨_,rfl⟩;rw[eV]at hV ⊢;replace hH:=hV;clear eV hV;refine Goes.step rfl λwz kv=>?_;replace hH:=hH.atr kv;clear kv;rw[stepG_region_end];simp only[goes_go];refine⟨j6,?_⟩;refine Goes.step rfl λwz kv=>?_;replace hH:=hH.atr kv;clear kv;rw[stepG_seq];simp only[goes_go];refine⟨j6,?_⟩;refine Goes.step rfl λwz kv=>?_;replace hH:=hH.atr kv;clear kv;rw[stepG_region];simp only[goes_go,List.size_toArray,List.length_cons,List.length_nil,Nat.reduceAdd,Nat.zero_add,List.range,List.range.loop];refine⟨j6,?_⟩;refine Goes.step rfl λwz kv=>?_;replace hH:=hH.atr kv;clear kv;refine goes_oper_k rfl rfl hbk λK hK=>?_;go_simp;refine hK _ _ ⟨λe he=>?_,?_⟩
 ·have hm:=mem_listed he;simp[go_sem,execOp,resolve,invoke,builtin,Act.eval]at hm
 clear hK K;try walk_nrm
 have sz:wz.heap.size=w0.heap.size+7:=hH.size;have hV:=hH.alloc (.cells #[.int .u64 0,.int .u32 0] 152);obtain⟨V,eV⟩:∃V,wz.alloc (.cells #[.int .u64 0,.int .u32 0] 152)=V:=⟨_,rfl⟩;rw[eV]at hV ⊢;rw[sz];replace hH:=hV;clear eV sz hV;refine Goes.step rfl λwz kv=>?_;replace hH:=hH.atr kv;clear kv;rw[stepG_region_end];simp only[goes_go];refine⟨j6,?_⟩;refine Goes.stop λwz kv=>?_;replace hH:=hH.atr kv;clear kv;exact hgo wz hH _ _ _ _ _ _ _ _ _ _ _ _ _ _ _ _
end Go.Proofs.Mn
