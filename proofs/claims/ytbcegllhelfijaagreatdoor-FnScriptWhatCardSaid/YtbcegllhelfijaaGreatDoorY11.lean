/-
  A part of the proof.
-/
import Derived.Test.YtbcegllhelfijaaGreatDoorY10
set_option linter.all false
set_option maxRecDepth 100000
set_option maxHeartbeats 8000000
namespace Go.Proofs.Mn
open Go.Conc Go.RowKit Go.Conc.Lib Go.ConcR.Gen Go.ConcN.Gen
open Go.ConcN (WgLive RW DWs AtR0 Has)
open Go.ConcR (KK wgBlock WgAt stA smA rd wr mk Payload DC0)
theorem jcr {P:Program}{main:Bool}{b:Frame}{a:Act}{k:List Item}{cs:List Frame}{w:World}{ops:Array Oper}{i:Nat}{rest:List Nat}{o:Oper}{d:Deferred}{f:Fn}{c:Array Value}(ho:ops[i]?=some o)(hw:Region.wanted o (yielded ops a.tmps)=true)
  (hk:b.kind≠.early)(hr:(execOp a.eval o).run P w=.ok (.spawn d) w)(hd:d.target=.fn f c)(he:(execOp a.eval o).events P w #[]=#[]) :
  stepG P main (G (b.at a (.inRegion ops (i::rest)::k)) cs) w=.spawn (G (b.at (a.put o.dst undef) (.inRegion ops rest::k)) cs) (born P d) w #[]:=by
 rw[stepG_spawn ho hw hk hr hd];unfold listed;rw[he];simp[seen]
def tail1:Code->Code
 | .seq a _=>a
 | c=>c
noncomputable def rest9:Code:=tailC (tailC (tailC (tailC rest5)))
noncomputable def opsW:Array Oper:=match tail1 (tailC (tailC (tailC rest5)))with
 | .region _ ops _=>ops
 | _=>#[]
theorem passM {N B:Nat}(hB:N+11<=B){b:Frame}{cs:List Frame}(hbk:b.kind≠.early){w0:World}{x y:Value}{Fin:World->Prop}
  (hS:∀w,Kp Tryz.link.tWg N w0 w->∃m,ToSend Tryz.prog Tryz.link.tWg N B (.agg #[x,y]) x m (born Tryz.prog (callS N)) w)
  (hR:∀w,Kp Tryz.link.tWg N w0 w->∃m,ToRecv Tryz.prog Tryz.link.tWg N B Fin (.agg #[x,y]) y m (born Tryz.prog (callR N)) w)
  (z0 z1 z2 z3 z4 z9 z10 z11 z12 z13 z14 z15 z16 z17 z18 z19 z20 z21 z22 z23 z24:Value)(R:List Value)(w:World)(hF:WgLive Tryz.link.tWg (N+7) w) :
  ∃(az:Act) (kw:List Item),az.tmps[6]?=some (.pointer (some ⟨N+5,0,none⟩))/\25<=az.tmps.size/\az.defers=[]/\kw=[.code rest9]/\∃m,Goes Tryz.prog true (RM Tryz.link.tWg N) (DM N B)
   (MKd0 Tryz.prog Tryz.link.tWg N B (AnchG Tryz.link N (b.at az (.inRegion opsW [0]::kw)) cs) (Born1 Tryz.prog Tryz.link.tWg N B w0 (.agg #[x,y]) x) (Born2 Tryz.prog Tryz.link.tWg N B w0 Fin (.agg #[x,y]) y)) m
   (G (b.at ⟨(z0::z1::z2::z3::z4::.pointer (some ⟨N+3,0,none⟩)::.pointer (some ⟨N+5,0,none⟩)::.pointer (some ⟨N+6,0,none⟩)::.pointer (some ⟨N+7,0,none⟩)::z9::z10::z11::z12::z13::z14::z15::z16::z17::z18::z19::z20::z21::z22::z23::z24::R).toArray,[]⟩ [.code rest5]) cs) w:=by
 refine⟨⟨(z0::z1::z2::z3::z4::.pointer (some ⟨N+3,0,none⟩)::.pointer (some ⟨N+5,0,none⟩)::.pointer (some ⟨N+6,0,none⟩)::.pointer (some ⟨N+7,0,none⟩)::z9::z10::z11::z12::z13::z14::z15::z16::z17::z18::z19::.tuple #[] ::
  .func (.func 132) #[] #[.pointer (some ⟨N+7,0,none⟩),.pointer (some ⟨N+3,0,none⟩),.pointer (some ⟨N+6,0,none⟩)] ::
  .func (.func 134) #[] #[.pointer (some ⟨N+7,0,none⟩),.pointer (some ⟨N+3,0,none⟩),.pointer (some ⟨N+5,0,none⟩)]::z23::z24::R).toArray,[]⟩,[.code rest9],rfl,by simp,rfl,rfl,?_⟩
 refine⟨3+20,calm RM.refl' j1v ?_⟩;simp only[rest5,tailC,Tryz.f116,Option.getD_some];u_c stepG_seq j5 hF;u_reg j5 hF
 u_in j5 hF
 refine goes_call rfl rfl hbk rfl Tryz.wgLib.f_add (nm_add Tryz.link) rfl ⟨by u_nil,?_⟩
 walk_nrmf addFn
 refine Goes.stop λwz kv=>?_;replace hF:=j5 hF kv;clear kv;have hA:=λ(az:Act) (ops₀:Array Oper) (kw:List Item) AnchW hT W hW=>@addTwoG Tryz.link _ N B b az ops₀ 0 [] kw cs Tryz.prog Tryz.wgLib (by omega) AnchW (Born1 Tryz.prog Tryz.link.tWg N B w0 (.agg #[x,y]) x) (Born2 Tryz.prog Tryz.link.tWg N B w0 Fin (.agg #[x,y]) y) 40 hT W hW;simp only[body_add,addFn,Option.getD_some]at hA;refine hA _ _ _ _ (λw hF=>?_) _ hF;clear hA;refine calm0 RM.refl' j1v ?_
 walk_nrm
 u_c stepG_region_end j5 hF;u_c stepG_seq j5 hF;u_reg j5 hF
 u_op j5 hF
 refine Goes.stop λwz kv=>?_;replace hF:=j5 hF kv;clear kv;refine⟨rfl,_,born Tryz.prog (callS N),jcr (f:=.func 132) (c:=#[.pointer (some ⟨N+7,0,none⟩),.pointer (some ⟨N+3,0,none⟩),.pointer (some ⟨N+6,0,none⟩)]) rfl rfl hbk (by simp[execOp,Act.eval,resolve,callS,Deferred.ofValue]) rfl (by simp[execOp,Act.eval,resolve,go_sem]),hS wz,40,?_⟩;refine calm0 RM.refl' j1v ?_
 walk_nrm
 u_c stepG_region_end j5 hF;u_c stepG_seq j5 hF;u_reg j5 hF
 u_op j5 hF
 refine Goes.stop λwz kv=>?_;replace hF:=j5 hF kv;clear kv;refine⟨rfl,_,born Tryz.prog (callR N),jcr (f:=.func 134) (c:=#[.pointer (some ⟨N+7,0,none⟩),.pointer (some ⟨N+3,0,none⟩),.pointer (some ⟨N+5,0,none⟩)]) rfl rfl hbk (by simp[execOp,Act.eval,resolve,callR,Deferred.ofValue]) rfl (by simp[execOp,Act.eval,resolve,go_sem]),hR wz,4+3,?_⟩;refine calm RM.refl' j1v ?_
 walk_nrm
 u_c stepG_region_end j5 hF;u_c stepG_seq j5 hF;u_reg j5 hF
 u_in j5 hF
 refine goes_call rfl rfl hbk rfl Tryz.wgLib.f_wait (nm_wait Tryz.link) rfl ⟨by u_nil,?_⟩;refine Goes.stop λwz kv=>?_;replace hF:=j5 hF kv;clear kv;exact waitStartG (N:=N) Tryz.wgLib (by simp[waitFn]) (by rw[Array.getElem?_append_left (by simp)];simp[Act.eval]) _ hF
open Go Go.Conc Go.RowKit
theorem split25 {l:List Value}(h:24+1<=l.length):∃u0 u1 u2 u3 u4 u5 u6 u7 u8 u9 u10 u11 u12 u13 u14 u15 u16 u17 u18 u19 u20 u21 u22 u23 u24 R,l=u0::u1::u2::u3::u4::u5::u6::u7::u8::u9::u10::u11::u12::u13::u14::u15::u16::u17::u18::u19::u20::u21::u22::u23::u24::R:=by
 obtain⟨u0,l0,rfl,h0⟩:=js h;obtain⟨u1,l1,rfl,h1⟩:=js h0;obtain⟨u2,l2,rfl,h2⟩:=js h1;obtain⟨u3,l3,rfl,h3⟩:=js h2;obtain⟨u4,l4,rfl,h4⟩:=js h3;obtain⟨u5,l5,rfl,h5⟩:=js h4;obtain⟨u6,l6,rfl,h6⟩:=js h5;obtain⟨u7,l7,rfl,h7⟩:=js h6;obtain⟨u8,l8,rfl,h8⟩:=js h7;obtain⟨u9,l9,rfl,h9⟩:=js h8;obtain⟨u10,l10,rfl,h10⟩:=js h9;obtain⟨u11,l11,rfl,h11⟩:=js h10;obtain⟨u12,l12,rfl,h12⟩:=js h11;obtain⟨u13,l13,rfl,h13⟩:=js h12;obtain⟨u14,l14,rfl,h14⟩:=js h13;obtain⟨u15,l15,rfl,h15⟩:=js h14;obtain⟨u16,l16,rfl,h16⟩:=js h15;obtain⟨u17,l17,rfl,h17⟩:=js h16;obtain⟨u18,l18,rfl,h18⟩:=js h17;obtain⟨u19,l19,rfl,h19⟩:=js h18;obtain⟨u20,l20,rfl,h20⟩:=js h19;obtain⟨u21,l21,rfl,h21⟩:=js h20;obtain⟨u22,l22,rfl,h22⟩:=js h21;obtain⟨u23,l23,rfl,h23⟩:=js h22;obtain⟨u24,l24,rfl,h24⟩:=js h23;exact⟨u0,u1,u2,u3,u4,u5,u6,u7,u8,u9,u10,u11,u12,u13,u14,u15,u16,u17,u18,u19,u20,u21,u22,u23,u24,l24,rfl⟩
theorem split40 {l:List Value}(h:39+1<=l.length):∃u0 u1 u2 u3 u4 u5 u6 u7 u8 u9 u10 u11 u12 u13 u14 u15 u16 u17 u18 u19 u20 u21 u22 u23 u24 u25 u26 u27 u28 u29 u30 u31 u32 u33 u34 u35 u36 u37 u38 u39 R,l=u0::u1::u2::u3::u4::u5::u6::u7::u8::u9::u10::u11::u12::u13::u14::u15::u16::u17::u18::u19::u20::u21::u22::u23::u24::u25::u26::u27::u28::u29::u30::u31::u32::u33::u34::u35::u36::u37::u38::u39::R:=by
 obtain⟨u0,l0,rfl,h0⟩:=js h;obtain⟨u1,l1,rfl,h1⟩:=js h0;obtain⟨u2,l2,rfl,h2⟩:=js h1;obtain⟨u3,l3,rfl,h3⟩:=js h2;obtain⟨u4,l4,rfl,h4⟩:=js h3;obtain⟨u5,l5,rfl,h5⟩:=js h4;obtain⟨u6,l6,rfl,h6⟩:=js h5;obtain⟨u7,l7,rfl,h7⟩:=js h6;obtain⟨u8,l8,rfl,h8⟩:=js h7;obtain⟨u9,l9,rfl,h9⟩:=js h8;obtain⟨u10,l10,rfl,h10⟩:=js h9;obtain⟨u11,l11,rfl,h11⟩:=js h10;obtain⟨u12,l12,rfl,h12⟩:=js h11;obtain⟨u13,l13,rfl,h13⟩:=js h12;obtain⟨u14,l14,rfl,h14⟩:=js h13;obtain⟨u15,l15,rfl,h15⟩:=js h14;obtain⟨u16,l16,rfl,h16⟩:=js h15;obtain⟨u17,l17,rfl,h17⟩:=js h16;obtain⟨u18,l18,rfl,h18⟩:=js h17;obtain⟨u19,l19,rfl,h19⟩:=js h18;obtain⟨u20,l20,rfl,h20⟩:=js h19;obtain⟨u21,l21,rfl,h21⟩:=js h20;obtain⟨u22,l22,rfl,h22⟩:=js h21;obtain⟨u23,l23,rfl,h23⟩:=js h22;obtain⟨u24,l24,rfl,h24⟩:=js h23;obtain⟨u25,l25,rfl,h25⟩:=js h24;obtain⟨u26,l26,rfl,h26⟩:=js h25;obtain⟨u27,l27,rfl,h27⟩:=js h26;obtain⟨u28,l28,rfl,h28⟩:=js h27;obtain⟨u29,l29,rfl,h29⟩:=js h28;obtain⟨u30,l30,rfl,h30⟩:=js h29;obtain⟨u31,l31,rfl,h31⟩:=js h30;obtain⟨u32,l32,rfl,h32⟩:=js h31;obtain⟨u33,l33,rfl,h33⟩:=js h32;obtain⟨u34,l34,rfl,h34⟩:=js h33;obtain⟨u35,l35,rfl,h35⟩:=js h34;obtain⟨u36,l36,rfl,h36⟩:=js h35;obtain⟨u37,l37,rfl,h37⟩:=js h36;obtain⟨u38,l38,rfl,h38⟩:=js h37;obtain⟨u39,l39,rfl,h39⟩:=js h38;exact⟨u0,u1,u2,u3,u4,u5,u6,u7,u8,u9,u10,u11,u12,u13,u14,u15,u16,u17,u18,u19,u20,u21,u22,u23,u24,u25,u26,u27,u28,u29,u30,u31,u32,u33,u34,u35,u36,u37,u38,u39,l39,rfl⟩
theorem jpg [Atom]{X:Nat->Prop}{args:Array Value}(ha:∀v∈args,CV X v):∃v0 v1,CV X v0/\CV X v1 /\
  (∃u2 u3 u4 u5 u6 u7 u8 u9 u10 u11 u12 u13 u14 u15 u16 u17 u18 u19 u20 u21 u22 u23 u24 u25 u26 u27 u28 u29 u30 u31 u32 u33 u34 u35 u36 u37 u38 u39 R,args++Array.replicate (40-args.size) undef=(v0::v1::u2::u3::u4::u5::u6::u7::u8::u9::u10::u11::u12::u13::u14::u15::u16::u17::u18::u19::u20::u21::u22::u23::u24::u25::u26::u27::u28::u29::u30::u31::u32::u33::u34::u35::u36::u37::u38::u39::R).toArray) /\
  (∃u2 u3 u4 u5 u6 u7 u8 u9 u10 u11 u12 u13 u14 u15 u16 u17 u18 u19 u20 u21 u22 u23 u24 R,args++Array.replicate (25-args.size) undef=(v0::v1::u2::u3::u4::u5::u6::u7::u8::u9::u10::u11::u12::u13::u14::u15::u16::u17::u18::u19::u20::u21::u22::u23::u24::R).toArray):=by
 have mk:∀n,25<=n->(args++Array.replicate (n-args.size) undef)=(args.toList++List.replicate (n-args.size) undef).toArray:=λn _=>by
  apply Array.ext';simp
 have hl:∀n,(args.toList++List.replicate (n-args.size) undef).length=max args.size n:=λn=>by simp;omega
 have hmem:∀n,∀v∈args.toList++List.replicate (n-args.size) undef,CV X v:=λn v hv=>by
  rcases List.mem_append.1 hv with h|h
  ·exact ha v (by simpa using h)
  ·rw[List.eq_of_mem_replicate h];exact j3w
 have hget:∀n i,i<n->i<2->(args.toList++List.replicate (n-args.size) undef)[i]?=some (args.getD i undef):=λn i hn hi=>by
  rw[Array.getD_eq_getD_getElem?];by_cases h:i<args.size
  ·rw[List.getElem?_append_left (by simpa using h)];simp[h]
  ·rw[List.getElem?_append_right (by simpa using h),Array.getElem?_eq_none (by omega)];simp[List.getElem?_replicate];omega
 obtain⟨u0,u1,u2,u3,u4,u5,u6,u7,u8,u9,u10,u11,u12,u13,u14,u15,u16,u17,u18,u19,u20,u21,u22,u23,u24,u25,u26,u27,u28,u29,u30,u31,u32,u33,u34,u35,u36,u37,u38,u39,R1,e1⟩:=split40 (l:=args.toList++List.replicate (40-args.size) undef) (by rw[hl];omega);obtain⟨z0,z1,z2,z3,z4,z5,z6,z7,z8,z9,z10,z11,z12,z13,z14,z15,z16,z17,z18,z19,z20,z21,z22,z23,z24,R2,e2⟩:=split25 (l:=args.toList++List.replicate (25-args.size) undef) (by rw[hl];omega);have a0:=hget 40 0 (by omega) (by omega);have a1:=hget 40 1 (by omega) (by omega);have b0:=hget 25 0 (by omega) (by omega);have b1:=hget 25 1 (by omega) (by omega);rw[e1]at a0 a1;rw[e2]at b0 b1;simp only[List.getElem?_cons_zero,List.getElem?_cons_succ,Option.some.injEq]at a0 a1 b0 b1;have m40:=hmem 40;rw[e1]at m40;refine⟨u0,u1,m40 u0 (by simp),m40 u1 (by simp),⟨_,_,_,_,_,_,_,_,_,_,_,_,_,_,_,_,_,_,_,_,_,_,_,_,_,_,_,_,_,_,_,_,_,_,_,_,_,_,_,(mk 40 (by omega)).trans (by rw[e1])⟩,⟨_,_,_,_,_,_,_,_,_,_,_,_,_,_,_,_,_,_,_,_,_,_,_,_,(mk 25 (by omega)).trans (by rw[e2,a0,a1,<- b0,<- b1])⟩⟩
section
variable {P:Program}{Stop:Goroutine->World->Prop} [Atom]
theorem LW.star_on {g:Goroutine}{w:World}{τ:Nat->Question->Nat}{d:Nat}(h:LW P Stop g (w.on τ d))(hn:¬Stop g (w.on τ d)):∃s',StarL P s' (g,w)/\Stop s'.1 s'.2:=by
 cases h with
 | stop h=>exact absurd h hn
 | @step _ _ _ _ es hc hs h=>
  obtain⟨s',h1,h2⟩:=h.star (f:=0) (R:=λ_ _=>True);refine⟨s',.step ⟨τ,d,es,?_⟩ h1,h2⟩;unfold stepL;rw[if_neg λhl=>hc hl.1];exact hs
end
theorem j8k {P:Program}{fr c:Frame}{cs:List Frame}{w:World}{fn:Func}{t:Tmp}{v:Value}(hm:fr.mode=.returning)(hd:fr.defers=[])(hf:P.funcs[fr.fn]?=some fn)(hr:fn.results=#[.tmp t])(hv:fr.tmps[t]?=some v) :
  stepG P true (G fr (c::cs)) w=doReturn P true fr (c::cs) none v w:=by
 have h1:(results fn fr.tmps).runT P w #[]=(.ok v w,#[]):=by
  unfold results;rw[hr];simp[hv,Array.mapM_eq_mapM_toList]
 have e:stepG P true (G fr (c::cs)) w=unwind P true fr (c::cs) none w:=by
  unfold stepG G;simp only[hm]
 rw[e];unfold unwind;simp only[hd,hm,hf,h1];have hs:seen P fr.fn (#[]:Array Event)=#[]:=seen_none P _;rw[hs];cases doReturn P true fr (c::cs) none v w<;>simp[GStep.after]
open Go Go.Conc Go.RowKit
theorem jdy {α:Type}(s:Sem α)(P:Program)(w:World):s.events P w #[]=(s.runT P w #[]).2:=rfl
theorem jcp:∀(vs:List Value)(o:Nat)(w:World)(g:Nat)(τ:Nat->Question->Nat)(d:Nat),((w.on τ d).setCells g o vs).heap=(w.setCells g o vs).heap
 | [],_,_,_,_,_=>rfl
 | v::r,o,w,g,τ,d=>jcp r (o+1) (w.setCell ⟨g,o,none⟩ v) g τ d
theorem j5i:∀(vs:List Value)(o:Nat)(w:World)(g:Nat),(w.setCells g o vs).heap.size=w.heap.size
 | [],_,_,_=>rfl
 | v::r,o,w,g=>by
  rw[World.setCells,j5i r (o+1)];exact World.size_setCell _ _ _
variable [Atom]
theorem jl7 [Stays]{X Y:Nat->Prop}{w0 w0' W V:World}{bs bs':Array Obj}(hA:Agree X w0 w0')(hW:Hp w0 bs W)(hV:Hp w0' bs' V)(hs:bs.size=bs'.size)(hY:∀b,b<w0.heap.size->¬Y b->¬X b)(hZ:∀b,b<w0.heap.size->X b->Y b)
  (hn:∀k,k<bs.size->¬Y (w0.heap.size+k)->bs[k]?=bs'[k]?):Agree Y (W.on V.tape V.drawn) V:=by
 refine⟨rfl,rfl,by show V.os=W.os;rw[hV.os,hW.os,hA.os],by show V.output=W.output;rw[hV.output,hW.output,hA.output],by show V.heap.size=W.heap.size;rw[hV.size,hW.size,hA.size,hs],λb hb=>?_,λb hb=>by
  obtain⟨h1,h2,h3⟩:=hA.keep b hb;have hl:=jby h2 h3;exact⟨hZ b (by rw[<- hA.size];exact hl) h1,h2,by rw[hV.old hl];exact h3⟩⟩
 show V.heap[b]?=W.heap[b]?;by_cases h:b<w0.heap.size
 ·rw[hV.old (by rw[hA.size];exact h),hW.old h,hA.block b (hY b h hb)]
 ·obtain⟨k,rfl⟩:∃k,b=w0.heap.size+k:=⟨b-w0.heap.size,by omega⟩;have e1:=hV.get k;rw[hA.size]at e1;rw[e1,hW.get k];by_cases hk:k<bs.size
  ·exact(hn k hk hb).symm
  ·rw[Array.getElem?_eq_none (by omega),Array.getElem?_eq_none (by omega)]
theorem jl8 {X Y:Nat->Prop}{w0 W:World}{bs:Array Obj}(hW:Hp w0 bs W)(hC:CW X w0)(hXY:∀b,Y b->X b)(hY:∀b,b<w0.heap.size->X b->Y b)
  (hn:∀k o,bs[k]?=some o->¬Y (w0.heap.size+k)->CO Y o):CW Y W:=by
 refine⟨λb o ho hb=>?_⟩;by_cases h:b<w0.heap.size
 ·rw[hW.old h]at ho;exact(hC.obj b o ho λhx=>hb (hY b h hx)).mono hXY
 ·obtain⟨k,rfl⟩:∃k,b=w0.heap.size+k:=⟨b-w0.heap.size,by omega⟩;rw[hW.get k]at ho;exact hn k o ho hb
section
variable (T:∀X:Nat->Prop,(∀b,X b->Tryz.prog.globals.size+1<=b)->Twin tnp Tryz.prog X 116)
 {X S:Nat->Prop}{wL w':World}{C0 C1:Array Value}{v0 v1:Value}{a1:Addr}{n1 c1:Nat}{sp:Option Addr}{n c:Nat}{row:Array Value}{x y:Value}
 [Stays](hA:Agree X wL w')(hC:CW X wL)(hfut:∀b,wL.heap.size<=b->X b)(high:∀b,X b->Tryz.prog.globals.size+1<=b)(hS:∀b,S b->X b)(hSo:∀b,S b->b<wL.heap.size)
 (hv0:CV X v0)(hv1:CV X v1)(hF:PassF v0 v1 C0 C1 a1 n1 c1 sp n c)(hM:MadeF tnp X wL C0 C1 a1 sp n c nul nul row x y)
include T hA hC hfut high hS hSo hv0 hv1 hF hM
theorem joz (V:World)(hV:Hp w' #[.cells C0 60,.cells C1 60,qch,qbx w'.heap.size,.cells (zs n) 76] V) :
  ∃V',(Builtin.copy_ #[58,58] 3 #[.slice (some ⟨w'.heap.size+4,0,none⟩) n n,.slice sp n c]).run Tryz.prog V=.ok (goInt n) V' /\
   Hp w' #[.cells C0 60,.cells C1 60,qch,qbx w'.heap.size,.cells row 76] V'/\∀e∈(Builtin.copy_ #[58,58] 3 #[.slice (some ⟨w'.heap.size+4,0,none⟩) n n,.slice sp n c]).events Tryz.prog V #[],EvL (shutL S) (w'.heap.size+7) e:=by
 obtain⟨W,csl,hW,_,hrun,hW'⟩:=hM.copy;have hN:w'.heap.size=wL.heap.size:=hA.size;rw[<- hN]at hrun hW';obtain⟨Y,hY⟩:∃Y:Nat->Prop,Y=λb=>X b/\b≠w'.heap.size+4:=⟨_,rfl⟩;have y4:¬Y (w'.heap.size+4):=λh=>by rw[hY]at h;exact h.2 rfl
 have yX:∀b,Y b->X b:=λb h=>by rw[hY]at h;exact h.1
 have yO:∀b,b<wL.heap.size->X b->Y b:=λb h hx=>by rw[hY];exact⟨hx,by omega⟩
 have yF:∀k,k≠4->Y (wL.heap.size+k):=λk hk=>by rw[hY];exact⟨hfut _ (by omega),by omega⟩
 have hAY:Agree Y (W.on V.tape V.drawn) V:=jl7 hA hW hV (by simp) (λb h hb hx=>hb (yO b h hx)) yO λk hk hb=>by
  by_cases h4:k=4
  ·subst h4;simp
  ·exact absurd (yF k h4) hb
 have hCY:CW Y W:=jl8 hW hC yX yO λk o ho hb=>by
  by_cases h4:k=4
  ·subst h4;simp at ho;subst ho;exact jlw n
  ·exact absurd (yF k h4) hb
 have TY:=T Y λb hb=>high b (yX b hb);have hsp:∀a,sp=some a->¬X a.block:=λa e=>j26 (e▸j3d (hF.e1▸hv1) _ (Array.mem_of_getElem? hF.l1));have hargs:∀v∈(#[.slice (some ⟨w'.heap.size+4,0,none⟩) n n,.slice sp n c]:Array Value),CV Y v:=by
  intro v hv;simp only[List.mem_toArray,List.mem_cons,List.not_mem_nil,or_false]at hv;rcases hv with rfl|rfl
  ·exact j1x y4
  ·exact .slice λa e hx=>hsp a e (yX _ hx)
 have hra:=j3q TY.tables (joq TY.toPair (ts:=#[58,58]) (t:=3) hargs) (W.on V.tape V.drawn) V #[] hAY ⟨hCY.obj⟩;have h0:=hrun V.tape V.drawn;rw[<- Sem.runT_fst (es:=#[])]at h0;rw[jdy];have hPr:((Builtin.copy_ #[58,58] 3 #[.slice (some ⟨w'.heap.size+4,0,none⟩) n n,.slice sp n c]).runT Tryz.prog V #[]).1=(Builtin.copy_ #[58,58] 3 #[.slice (some ⟨w'.heap.size+4,0,none⟩) n n,.slice sp n c]).run Tryz.prog V:=Sem.runT_fst ..;generalize(Builtin.copy_ #[58,58] 3 #[.slice (some ⟨w'.heap.size+4,0,none⟩) n n,.slice sp n c]).runT tnp (W.on V.tape V.drawn) #[]=r at hra h0;obtain⟨r,es1⟩:=r;simp only at h0;subst h0;obtain⟨V',new,hrP,hes,_,hAg,_,_,hev⟩:=hra λb h1 h2=>by rw[j5i]at h2;omega
 rw[hrP]at hPr ⊢;have hgV:V.heap[w'.heap.size+4]?=some (.cells (zs n) 76 (0,0)):=hV.get 4;have hCV:CW X V:=hV.cw (λb hb=>hfut b (by omega)) ⟨λb o ho hb=>hC.obj b o (by rw[<- hA.block b hb];exact ho) hb⟩;rcases jkw (P:=Tryz.prog) (dT:=58) (sT:=58) (ty:=3) (g:=w'.heap.size+4) (n:=n) (dc:=n) (sc:=c) hCV Tryz.underlying58 Tryz.sizeOf76 hgV (jkm n) hsp with⟨cs2,_,h2⟩|⟨h,W2,_,h2⟩
 ·have h3:=h2 V.tape V.drawn;have e:V.on V.tape V.drawn=V:=rfl;rw[e,<- hPr]at h3;injection h3 with _ h3
  refine⟨V',hPr.symm,?_,λe he=>?_⟩
  ·obtain⟨row2,_,_,hV2⟩:=Hp.setCells cs2 0 hV (k:=4) rfl;rw[<- h3]at hV2;have g1:=hV2.get 4;have g2:=hW'.get 4;have g3:=hAg.block (w'.heap.size+4) y4;rw[show((W.on V.tape V.drawn).setCells (w'.heap.size+4) 0 csl).heap=(W.setCells (w'.heap.size+4) 0 csl).heap from jcp csl 0 W _ _ _]at g3;rw[<- hN]at g2;rw[g1,g2]at g3;simp at g3;rw[g3]at hV2;exact hV2
  ·rw[hes]at he;refine j43 (λb hb=>yO b (hSo b hb) (hS b hb)) (hev e (by simpa using he)) ?_;rw[j5i];have:=hW.size;show W.heap.size<=_;rw[this];simp;omega
 ·rw[h2]at hPr;cases hPr
theorem jp0 (V:World)(hV:Hp w' #[.cells C0 60,.cells C1 60,qch,qbx w'.heap.size,.cells row 76,.cells #[.slice (some ⟨w'.heap.size+4,0,none⟩) n n] 58] V) :
  (loadVar 76 (a1.add (n*2))).run Tryz.prog V=.ok (.agg #[x,y]) V/\∀e∈(loadVar 76 (a1.add (n*2))).events Tryz.prog V #[],EvL (shutL S) (w'.heap.size+7) e:=by
 obtain⟨W,hW,hCW,hrun⟩:=hM.load;have hN:w'.heap.size=wL.heap.size:=hA.size;have hAX:Agree X (W.on V.tape V.drawn) V:=jl7 hA hW hV (by simp) (λb _ hb=>hb) (λb _ h=>h) λk hk hb=>absurd (hfut _ (by omega)) hb;have TX:=T X high;have ha:¬X (a1.add (n*2)).block:=by
  rw[j2r];exact j26 (j3d (hF.e0▸hv0) _ (Array.mem_of_getElem? hF.l0))
 have hra:=j3q TX.tables (j41 TX.toPair (t:=76) ha) (W.on V.tape V.drawn) V #[] hAX ⟨hCW.obj⟩;have h0:=hrun V.tape V.drawn;rw[<- Sem.runT_fst (es:=#[])]at h0;rw[jdy];have hPr:((loadVar 76 (a1.add (n*2))).runT Tryz.prog V #[]).1=(loadVar 76 (a1.add (n*2))).run Tryz.prog V:=Sem.runT_fst ..;generalize(loadVar 76 (a1.add (n*2))).runT tnp (W.on V.tape V.drawn) #[]=r at hra h0;obtain⟨r,es1⟩:=r;simp only at h0;subst h0;obtain⟨V',new,hrP,hes,_,hAg,_,_,hev⟩:=hra λb h1 h2=>by omega
 rw[hrP]at hPr ⊢;have hCV:CW X V:=hV.cw (λb hb=>hfut b (by omega)) ⟨λb o ho hb=>hC.obj b o (by rw[<- hA.block b hb];exact ho) hb⟩;rcases j9y (P:=Tryz.prog) hCV ha Tryz.isAgg76 Tryz.sizeOf76 with⟨x2,y2,_,_,h2⟩|⟨h,W2,_,h2⟩
 ·have h3:=h2 V.tape V.drawn;have e:V.on V.tape V.drawn=V:=rfl;rw[e,<- hPr]at h3;injection h3 with h4 h3
  refine⟨by rw[<- hPr,h3],λe he=>?_⟩;rw[hes]at he;refine j43 hS (hev e (by simpa using he)) ?_;have:=hW.size;show W.heap.size<=_;rw[this];simp;omega
 ·rw[h2]at hPr;cases hPr
end
end Go.Proofs.Mn
namespace Go.Proofs.Mn
open Go Go.Conc Go.RowKit Go.Conc.Lib Go.ConcR.Gen Go.ConcN.Gen
open Go.ConcN (WgLive Has)
open Go.ConcR (WgAt)
theorem jyg {N:Nat}{w0 w:World}{x y:Value}(hN:w0.heap.size=N+8)(h3:w0.heap[N+3]?=some (qbx N))(h6:w0.heap[N+6]?=some (.cells #[x,y] 76))(h:Kp Tryz.link.tWg N w0 w):SK N x y w:=by
 have e3:=(h.block (N+3) (by omega) (by omega)).trans h3;have e6:=(h.block (N+6) (by omega) (by omega)).trans h6;exact⟨h.live,by simp[World.cell?,e3,qbx],by simp[World.cell?,e6],by simp[World.cell?,e6]⟩
theorem jyf {N:Nat}{w0 w:World}{x y:Value}(hN:w0.heap.size=N+8)(h3:w0.heap[N+3]?=some (qbx N))(h6:w0.heap[N+6]?=some (.cells #[x,y] 76))(h:Kp Tryz.link.tWg N w0 w):RK N y w0 w:=by
 have e3:=(h.block (N+3) (by omega) (by omega)).trans h3;have e6:=(h.block (N+6) (by omega) (by omega)).trans h6;exact⟨h.live,by simp[World.cell?,e6],by simp[World.cell?,e3,qbx],h.size,h.block⟩
theorem phaseP {N:Nat}{b:Frame}{cs:List Frame}(hbk:b.kind≠.early){S:Nat->Prop}(hSo:∀b,S b->b<N){gs:Array Goroutine}{w0 w':World}{sl:Option (Nat×Nat)}{t:Trace}{q:Nat->Nat}
  {C0 C1:Array Value}{n:Nat}{row:List Value}{x y:Value}(hn:n<=12)(hrl:row.length=n*2)(ox:x.oneCell'=true)(oy:y.oneCell'=true)
  (hN:w0.heap.size=N)(hH:Hp w0 (bs8 N C0 C1 n qch (qbx N) qwg row.toArray x y) w')
  (z0 z1 z2 z3 z4 z9 z10 z11 z12 z13 z14 z15 z16 z17 z18 z19 z20 z21 z22 z23 z24:Value)(R:List Value)
  (h0:gs[0]?=some (G (b.at ⟨(z0::z1::z2::z3::z4::.pointer (some ⟨N+3,0,none⟩)::.pointer (some ⟨N+5,0,none⟩)::.pointer (some ⟨N+6,0,none⟩)::.pointer (some ⟨N+7,0,none⟩)::z9::z10::z11::z12::z13::z14::z15::z16::z17::z18::z19::z20::z21::z22::z23::z24::R).toArray,[]⟩ [.code rest5]) cs))
  (hL:Leavers Tryz.prog t gs q)(hP:Past (shutL S) (N+7) t) :
  ∃(K:Nat) (gs1:Array Goroutine) (w1:World) (sl1:Option (Nat×Nat)) (t1:Trace) (q1:Nat->Nat) (az:Act),runNT Tryz.prog K (crowd gs w' sl) t=(.next (crowd gs1 w1 sl1),t1) /\
   az.tmps[6]?=some (.pointer (some ⟨N+5,0,none⟩))/\25<=az.tmps.size/\az.defers=[]/\gs1[0]?=some (G (b.at (az.put ((opsW[0]?).bind (·.dst)) (.tuple #[])) (.inRegion opsW []::[.code rest9])) cs) /\
   Keep N w' w1/\FinR N n x y row w1/\Leavers Tryz.prog t1 gs1 q1/\Past (shutL λb=>S b\/b=N+7) (N+11) t1:=by
 subst hN;have g2:=hH.get 2;have g3:=hH.get 3;have g4:=hH.get 4;have g5:=hH.get 5;have g6:=hH.get 6;have g7:=hH.get 7;have hsz:w'.heap.size=w0.heap.size+8:=hH.size;have hwg:WgAt Tryz.link.tWg (w0.heap.size+7) w' 0 0:=g7;obtain⟨az,kw,h6,h25,hd,rfl,m,hG⟩:=passM (N:=w0.heap.size) (B:=w0.heap.size+11) (Nat.le_refl _) (b:=b) (cs:=cs) hbk (w0:=w') (x:=x) (y:=y) (Fin:=FinR w0.heap.size n x y row)
  (λw h=>sendS (by omega) w (jyg hsz g3 g6 h)) (λw h=>recvR ox oy (Nat.le_refl _) hsz hn hrl g5 g4 w (jyf hsz g3 g6 h)) z0 z1 z2 z3 z4 z9 z10 z11 z12 z13 z14 z15 z16 z17 z18 z19 z20 z21 z22 z23 z24 R w' ⟨_,_,hwg⟩
 obtain⟨K,m',t',hrun,hE⟩:=phaseG (P:=Tryz.prog) (ty:=Tryz.link.tWg) (N:=w0.heap.size) (B:=w0.heap.size+11) (Shun:=shutL S) (Fin:=FinR w0.heap.size n x y row) (v:=.agg #[x,y]) (vs:=x) (vr:=y)
  (AnchW:=AnchG Tryz.link w0.heap.size (b.at az (.inRegion opsW [0]::[.code rest9])) cs) (Out:=OutG b az opsW 0 [] [.code rest9] cs) (sl:=sl) (by omega)
  (λl h=>by obtain⟨a,h1,h2⟩:=h;exact⟨a,h1,hSo _ h2⟩) (λw w2 r h=>h.rely r) (λg w h=>by obtain⟨_,rfl,_⟩:=h;rfl) (λg w h=>by obtain rfl:=h;rfl)
  (λg w h=>waitRoundG Tryz.wgLib (by omega) g w h) h0 hL hP g2 hwg hG
 obtain⟨gs1,a,w1,sl1,q1,rfl,ha,_,hO,hK,hF,_,_,hL1,hP1⟩:=hE;refine⟨K,gs1,w1,sl1,t',q1,az,hrun,h6,h25,hd,by rw[ha];exact congrArg some hO,hK,hF,hL1,?_⟩;have e:(λl=>shutL S l\/shG w0.heap.size l)=shutL λb=>S b\/b=w0.heap.size+7:=by
  funext l;apply propext;constructor
  ·rintro(⟨a,h1,h2⟩|⟨a,h1,h2⟩)
   ·exact⟨a,h1,.inl h2⟩
   ·exact⟨a,h1,.inr h2⟩
  ·rintro⟨a,h1,h2|h2⟩
   ·exact .inl ⟨a,h1,h2⟩
   ·exact .inr ⟨a,h1,h2⟩
 rw[e]at hP1;exact hP1
theorem j7v {P:Program}{fr fr' c:Frame}{cs:List Frame}{v:Value}{w:World}(h:fr'.kind=fr.kind):doReturn P true fr' (c::cs) none v w=doReturn P true fr (c::cs) none v w:=by
 unfold doReturn;simp only[h]
theorem jre {T:Array Value}(h:24+1<=T.size):∃u0 u1 u2 u3 u4 u5 u6 u7 u8 u9 u10 u11 u12 u13 u14 u15 u16 u17 u18 u19 u20 u21 u22 u23 u24 R,T=(u0::u1::u2::u3::u4::u5::u6::u7::u8::u9::u10::u11::u12::u13::u14::u15::u16::u17::u18::u19::u20::u21::u22::u23::u24::R).toArray:=by
 obtain⟨u0,u1,u2,u3,u4,u5,u6,u7,u8,u9,u10,u11,u12,u13,u14,u15,u16,u17,u18,u19,u20,u21,u22,u23,u24,R,e⟩:=split25 (l:=T.toList) (by simpa using h);exact⟨u0,u1,u2,u3,u4,u5,u6,u7,u8,u9,u10,u11,u12,u13,u14,u15,u16,u17,u18,u19,u20,u21,u22,u23,u24,R,by rw[<- e]⟩
theorem restC {S:Nat->Prop}{N B:Nat}{b c c':Frame}{cs:List Frame}{az:Act}{v:Value}(hb:b.fn=116)(hbk:b.kind≠.early)(hS:¬S (N+5))(hB:N+5<B)
  (h6:az.tmps[6]?=some (.pointer (some ⟨N+5,0,none⟩)))(h25:25<=az.tmps.size)(hd:az.defers=[])(w0:World)(hlog:w0.heap[N+5]?=some (.cells #[v] 58))
  (hret:∀(Pq:Program)(cs:List Frame)(w:World),doReturn Pq true b (c::cs) none v w=.go { frame:=c',callers:=cs,status:=.running,dying:=none } w) :
  Goes Tryz.prog true AtRel (DE S B) (λg w=>Hp w0 #[] w/\g=G c' cs) 20 (G (b.at (az.put ((opsW[0]?).bind (·.dst)) (.tuple #[])) (.inRegion opsW []::[.code rest9])) (c::cs)) w0:=by
 have hH:Hp w0 #[] w0:=Hp.start w0;have hdr:∀fr:Frame,fr.kind=b.kind->∀w,doReturn Tryz.prog true fr (c::cs) none v w=.go { frame:=c',callers:=cs,status:=.running,dying:=none } w:=λfr hk w=>(j7v hk).trans (hret _ _ w);obtain⟨T,D⟩:=az;simp only at h6 h25 hd;subst hd;obtain⟨u0,u1,u2,u3,u4,u5,u6,u7,u8,u9,u10,u11,u12,u13,u14,u15,u16,u17,u18,u19,u20,u21,u22,u23,u24,R,rfl⟩:=jre h25;simp only[List.getElem?_toArray,List.getElem?_cons_succ,List.getElem?_cons_zero,Option.some.injEq]at h6;subst h6;simp only[opsW,tail1,rest9,rest5,tailC,Tryz.f116,Option.getD_some]
 walk_nrm
 refine Goes.step rfl λwz kv=>?_;replace hH:=hH.atr kv;clear kv;rw[stepG_region_end];simp only[goes_go];refine⟨j6,?_⟩;refine Goes.step rfl λwz kv=>?_;replace hH:=hH.atr kv;clear kv;rw[stepG_seq];simp only[goes_go];refine⟨j6,?_⟩;refine Goes.step rfl λwz kv=>?_;replace hH:=hH.atr kv;clear kv;rw[stepG_region];simp only[goes_go,List.size_toArray,List.length_cons,List.length_nil,Nat.reduceAdd,Nat.zero_add,List.range,List.range.loop];refine⟨j6,?_⟩;refine Goes.step rfl λwz kv=>?_;replace hH:=hH.atr kv;clear kv;have hc:wz.cell? ⟨N+5,0,none⟩=some v:=by
  have e:wz.heap[N+5]?=w0.heap[N+5]?:=by rw[hH.heap];simp
  simp[World.cell?,e,hlog]
 refine goes_oper_k rfl rfl hbk λK hK=>?_;go_simp;refine hK _ _ ⟨λe he=>?_,?_⟩
 ·have hm:=mem_listed he;simp[go_sem,storedEv, *]at hm;subst hm;exact j5d hS hB
 clear hK K hc;refine Goes.step rfl λwz kv=>?_;replace hH:=hH.atr kv;clear kv;refine goes_oper_k rfl rfl hbk λK hK=>?_;go_simp;refine hK _ _ ⟨λe he=>?_,?_⟩
 ·have hm:=mem_listed he;simp[go_sem,execOp,resolve,invoke,builtin,Act.eval]at hm
 clear hK K;try walk_nrm
 refine Goes.step rfl λwz kv=>?_;replace hH:=hH.atr kv;clear kv;rw[stepG_region_end];simp only[goes_go];refine⟨j6,?_⟩;refine Goes.step rfl λwz kv=>?_;replace hH:=hH.atr kv;clear kv;rw[stepG_ret'];simp only[goes_go];refine⟨j6,?_⟩;refine Goes.step rfl λwz kv=>?_;replace hH:=hH.atr kv;clear kv;rw[j8k (fn:=Tryz.f116) (t:=4) (v:=v) rfl rfl (by show Tryz.prog.funcs[b.fn]?=_;rw[hb];exact Tryz.func116) rfl rfl,hdr _ (by rfl)];simp only[goes_go];refine⟨j6,Goes.stop (λwz kv=>?_)⟩;exact⟨hH.atr kv,rfl⟩
open Go Go.Conc Go.RowKit
def MidS [Atom](X:Nat->Prop)(wL:World)(v0 v1:Value)(b:Frame)(cs:List Frame)(g:Goroutine)(w:World):Prop:=
 ∃C0 C1 a1 n1 c1 sp n c row x y,PassF v0 v1 C0 C1 a1 n1 c1 sp n c/\MadeF tnp X wL C0 C1 a1 sp n c nul nul row x y/\Hp wL (bs8 wL.heap.size C0 C1 n nul nul nul row x y) w /\
  ∃(u0 u1 u2 u3 u4 u5 u7 u8 u9 u10 u11 u12 u13 u14 u15 u16 u17 u18 u20 u21 u22 u23 u24 u25 u26 u27 u28 u29 u30 u31 u32 u33 u34 u35 u36 u37 u38 u39:Value) (R:List Value),g=G (b.at ⟨(u0::u1::u2::u3::u4::u5::.pointer (some ⟨wL.heap.size+5,0,none⟩)::u7::u8::u9::u10::u11::u12::u13::u14::u15::u16::u17::u18::.agg #[x,y]::u20::u21::u22::u23::u24::u25::u26::u27::u28::u29::u30::u31::u32::u33::u34::u35::u36::u37::u38::u39::R).toArray,[]⟩ [.code (.seq Twn.passDo .ret)]) cs
theorem jtg [Atom]{X:Nat->Prop}{b:Frame}{cs:List Frame}(hcs:cs≠[])(hbk:b.kind≠.early)(hro:b.roundOf=none)(wL:World)(hC:CW X wL)(hfut:∀b,wL.heap.size<=b->X b){v0 v1:Value}(hv0:CV X v0)(hv1:CV X v1)
  (u2 u3 u4 u5 u6 u7 u8 u9 u10 u11 u12 u13 u14 u15 u16 u17 u18 u19 u20 u21 u22 u23 u24 u25 u26 u27 u28 u29 u30 u31 u32 u33 u34 u35 u36 u37 u38 u39:Value)(R:List Value) :
  LW tnp (λg w=>Bad tnp g w\/MidS X wL v0 v1 b cs g w) (G (b.at ⟨(v0::v1::u2::u3::u4::u5::u6::u7::u8::u9::u10::u11::u12::u13::u14::u15::u16::u17::u18::u19::u20::u21::u22::u23::u24::u25::u26::u27::u28::u29::u30::u31::u32::u33::u34::u35::u36::u37::u38::u39::R).toArray,[]⟩ [.code Twn.passBody]) cs) wL:=by
 refine jhp (λ_ _ h=>.inl h) hcs hbk hro wL v0 v1 _ _ _ _ _ _ _ _ _ _ _ _ _ _ _ _ _ _ _ _ _ _ _ _ _ _ _ _ _ _ _ _ _ _ _ _ _ _ R λC0 C1 a1 n1 c1 sp n c hF z27 z29 z30 z31=>?_;obtain rfl:=hF.e0;obtain rfl:=hF.e1;exact jfs (λ_ _ h=>.inl h) hcs hbk hro wL hC hfut (j3d hv0) (j3d hv1) hF _ _ _ _ _ _ _ _ _ _ _ _ _ _ _ _ _ _ _ _ _ _ _ _ _ _ _ _ _ _ _ _ _ _ _ R λrow x y hM w hH _ z2 z3 z5 z7 z8 z9 z12 z18 z25 z26 z28 z33=>
  .stop (.inr ⟨_,_,_,_,_,_,_,_,row,x,y,hF,hM,hH,_,_,_,_,_,_,_,_,_,_,_,_,_,_,_,_,_,_,_,_,_,_,_,_,_,_,_,_,_,_,_,_,_,_,_,_,_,_,R,rfl⟩)
def shut1 (X:Nat->Prop)(N:Nat)(b:Nat):Prop:=X b/\(b<N\/b=N+2\/b=N+3\/b=N+7\/N+11<=b)
theorem j18 {P:Program}{fn:Func}{c:Code}{f:FuncId}{args:Array Value}{kind:CallKind}{T:Array Value}(hf:P.funcs[f]?=some fn)(hb:fn.body=some c)(hT:args++Array.replicate (fn.ntmps-args.size) undef=T) :
  Frame.enter P f args kind=({ fn:=f,tmps:=#[],todo:=[],defers:=[],mode:=.run,kind,roundOf:=none }:Frame).at ⟨T,[]⟩ [.code c]:=by
 simp[Frame.enter,Frame.at,hf,hb,<- hT]
variable [Atom]
theorem jr7 {X:Nat->Prop}{n k:Nat}{row:List Value}{x y:Value}(hr:∀v∈row,CV X v)(hx:CV X x)(hy:CV X y):∀v∈rsq n k row x y,CV X v:=by
 unfold rsq Builtin.zeroCells;refine j1z ?_ (j7u ?_)
 ·intro v hv;simp at hv;rcases hv with h|rfl|rfl
  ·exact hr v h
  ·exact hx
  ·exact hy
 ·intro v hv;simp at hv;subst hv;exact .int
theorem jlz {X Y:Nat->Prop}{N:Nat}{C0 C1:Array Value}{n k:Nat}{row:List Value}{x y:Value}(hXY:∀b,Y b->X b)(h0:∀v∈C0,CV X v)(h1:∀v∈C1,CV X v)(hr:∀v∈row,CV X v)(hx:CV X x)(hy:CV X y)
  (h10:¬Y (N+10))(j:Nat)(o:Obj)(ho:(bs11 N C0 C1 n k nul nul nul row x y)[j]?=some o):CO Y o:=by
 have up:∀{v},CV X v->CV Y v:=λh=>h.mono hXY;have two:∀v∈(#[x,y]:Array Value),CV Y v:=λv hv=>by
  simp at hv;rcases hv with rfl|rfl
  ·exact up hx
  ·exact up hy
 have hn:CO Y nul:=by simp[nul,CO]
 have hm:=Array.mem_of_getElem? ho;simp only[bs11,List.mem_toArray,List.mem_cons,List.not_mem_nil,or_false]at hm;rcases hm with rfl|rfl|rfl|rfl|rfl|rfl|rfl|rfl|rfl|rfl|rfl
 ·exact λv hv=>up (h0 v hv)
 ·exact λv hv=>up (h1 v hv)
 ·exact hn
 ·exact hn
 ·exact λv hv=>up (hr v (by simpa using hv))
 ·intro v hv;simp at hv;subst hv;exact j1x h10
 ·exact two
 ·exact hn
 ·exact two
 ·exact two
 ·exact λv hv=>jr7 (λv hv=>up (hr v hv)) (up hx) (up hy) v hv
theorem jvp [Stays]{X S:Nat->Prop}{N:Nat}{base:List Frame}{c':Frame}{cs:List Frame}{wL w' w1 w2 w3 w4:World}{gs3:Array Goroutine}{t3:Trace}{q3:Nat->Nat}
  {C0 C1:Array Value}{n k:Nat}{row:List Value}{x y:Value}(hNL:wL.heap.size=N)(hA:Agree X wL w')(hC:CW X wL)(hfut:∀b,N<=b->X b)(high:∀b,X b->Tryz.prog.globals.size+1<=b)(hS:∀b,S b->X b)(hSo:∀b,S b->b<N)
  (h0:∀v∈C0,CV X v)(h1:∀v∈C1,CV X v)(hr:∀v∈row,CV X v)(hx:CV X x)(hy:CV X y)
  (hH1:Hp w' (bs8 N C0 C1 n qch (qbx N) qwg row.toArray x y) w1)(hK:Keep N w1 w2)
  (e5:w2.heap[N+5]?=some (.cells #[.slice (some ⟨N+10,0,none⟩) (n+1) (cutq n k)] 58))(e8:w2.heap[N+8]?=some (.cells #[x,y] 76))(e9:w2.heap[N+9]?=some (.cells #[x,y] 76))(e10:w2.heap[N+10]?=some (.cells (rsq n k row x y) 76))
  (s2:w2.heap.size=N+11)(hH3:Hp w2 #[] w3)(hH4:Hp (wL.on (λ_ _=>k) 0) (bs11 N C0 C1 n k nul nul nul row x y) w4)
  (hat:gs3[0]?=some ((G c' cs).over base))(hL:Leavers Tryz.prog t3 gs3 q3)(hP:Past (shutL λb=>S b\/b=N+7) (N+11) t3) :
  Rel Tryz.prog base (shut1 X N) (λb=>S b\/b=N+7) (G c' cs) w4 w3 gs3 t3 q3:=by
 have hN':w'.heap.size=N:=hA.size.trans hNL;have s4:w4.heap.size=N+11:=by
  rw[hH4.size];show wL.heap.size+_=_;rw[hNL];rfl
 have s3:w3.heap.size=N+11:=by
  rw[hH3.size,s2];rfl
 have g3:∀b:Nat,w3.heap[b]?=w2.heap[b]?:=λb=>by rw[hH3.heap];simp
 have g4:∀j:Nat,w4.heap[N+j]?=(bs11 N C0 C1 n k nul nul nul row x y)[j]?:=λj=>by
  have:=hH4.get j;rw[show(wL.on (λ_ _=>k) 0).heap.size=N from hNL]at this;exact this
 have g1:∀j:Nat,w1.heap[N+j]?=(bs8 N C0 C1 n qch (qbx N) qwg row.toArray x y)[j]?:=λj=>by
  have:=hH1.get j;rw[hN']at this;exact this
 refine⟨⟨rfl,rfl,?_,?_,?_,λb hb=>?_,λb hb=>by
  obtain⟨h1,h2,h3⟩:=hA.keep b hb;have hl:=jby h2 h3;rw[hN']at hl;exact⟨⟨h1,.inl hl⟩,h2,by rw[g3,hK.block b (by omega) (by omega) (by omega) (by omega),hH1.old (by rw[hN'];exact hl)];exact h3⟩⟩,?_,λb hb=>?_,λb hb=>high b hb.1,λb hb=>?_,λb hb=>?_,hat,hL,by rw[s3];exact hP⟩
 ·show w3.os=w4.os;rw[hH3.os,hK.os,hH1.os,hA.os,hH4.os];rfl
 ·show w3.output=w4.output;rw[hH3.output,hK.output,hH1.output,hA.output,hH4.output];rfl
 ·show w3.heap.size=w4.heap.size;rw[s3,s4]
 ·show w3.heap[b]?=w4.heap[b]?;by_cases hlt:b<N
  ·have hxb:¬X b:=λh=>hb ⟨h,.inl hlt⟩;rw[g3,hK.block b (by omega) (by omega) (by omega) (by omega),hH1.old (by rw[hN'];exact hlt),hA.block b hxb,hH4.old (by show b<wL.heap.size;rw[hNL];exact hlt)];rfl
  ·have hX:X b:=hfut b (by omega);have n2:b≠N+2:=λh=>hb ⟨hX,.inr (.inl h)⟩;have n3:b≠N+3:=λh=>hb ⟨hX,.inr (.inr (.inl h))⟩;have n7:b≠N+7:=λh=>hb ⟨hX,.inr (.inr (.inr (.inl h)))⟩;have nb:¬N+11<=b:=λh=>hb ⟨hX,.inr (.inr (.inr (.inr h)))⟩;obtain⟨j,rfl⟩:∃j,b=N+j:=⟨b-N,by omega⟩;rw[g3,g4];have old:j<8->j≠5->w2.heap[N+j]?=(bs8 N C0 C1 n qch (qbx N) qwg row.toArray x y)[j]?:=λh1 h5=>by rw[hK.block (N+j) (by omega) (by omega) (by omega) (by omega),g1]
   match j,n2,n3,n7,nb with
   | 0,_,_,_,_=>exact old (by omega) (by omega)
   | 1,_,_,_,_=>exact old (by omega) (by omega)
   | 2,h,_,_,_=>exact absurd rfl h
   | 3,_,h,_,_=>exact absurd rfl h
   | 4,_,_,_,_=>exact old (by omega) (by omega)
   | 5,_,_,_,_=>exact e5
   | 6,_,_,_,_=>exact old (by omega) (by omega)
   | 7,_,_,h,_=>exact absurd rfl h
   | 8,_,_,_,_=>exact e8
   | 9,_,_,_,_=>exact e9
   | 10,_,_,_,_=>exact e10
   | j+11,_,_,_,h=>exact absurd (by omega) h
 ·refine jl8 (X:=X) hH4 ⟨hC.obj⟩ (λb h=>h.1) (λb h hx=>⟨hx,.inl (by rw[<- hNL];exact h)⟩) λj o ho _=>?_;refine jlz (λb h=>h.1) h0 h1 hr hx hy (λh=>?_) j o ho;have:=h.2;omega
 ·rw[s4]at hb;exact⟨hfut b (by omega),.inr (.inr (.inr (.inr hb)))⟩
 ·rcases hb with h|rfl
  ·exact⟨hS b h,.inl (hSo b h)⟩
  ·exact⟨hfut _ (by omega),.inr (.inr (.inr (.inl rfl)))⟩
 ·rw[s4];rcases hb with h|rfl
  ·have:=hSo b h;omega
  ·omega
theorem jk0 [Stays](T:∀X:Nat->Prop,(∀b,X b->Tryz.prog.globals.size+1<=b)->Twin tnp Tryz.prog X 116)(base:List Frame)(f:FuncId)(R:Value->World->Prop):Phase tnp Tryz.prog base 116 f R:=by
 intro X S args kind fr cs w w' gs sl t q hk1 hk2 ha hfr hcs hRel hT;obtain⟨v0,v1,hv0,hv1,⟨u2,u3,u4,u5,u6,u7,u8,u9,u10,u11,u12,u13,u14,u15,u16,u17,u18,u19,u20,u21,u22,u23,u24,u25,u26,u27,u28,u29,u30,u31,u32,u33,u34,u35,u36,u37,u38,u39,R1,eL⟩,⟨z2,z3,z4,z5,z6,z7,z8,z9,z10,z11,z12,z13,z14,z15,z16,z17,z18,z19,z20,z21,z22,z23,z24,R2,eC⟩⟩:=jpg ha;obtain⟨b,bfn,bk,bro,bL,bC⟩:∃b:Frame,b.fn=116/\b.kind=kind/\b.roundOf=none /\
   Frame.enter tnp 116 args kind=b.at ⟨(v0::v1::u2::u3::u4::u5::u6::u7::u8::u9::u10::u11::u12::u13::u14::u15::u16::u17::u18::u19::u20::u21::u22::u23::u24::u25::u26::u27::u28::u29::u30::u31::u32::u33::u34::u35::u36::u37::u38::u39::R1).toArray,[]⟩ [.code Twn.passBody] /\
   Frame.enter Tryz.prog 116 args kind=b.at ⟨(v0::v1::z2::z3::z4::z5::z6::z7::z8::z9::z10::z11::z12::z13::z14::z15::z16::z17::z18::z19::z20::z21::z22::z23::z24::R2).toArray,[]⟩ [.code (Tryz.f116.body.getD .skip)]:=
  ⟨_,rfl,rfl,rfl,j18 Twn.func116 rfl eL,j18 Tryz.func116 rfl eC⟩
 have hbk:b.kind≠.early:=by rw[bk];exact hk1
 have hcs0:fr::cs≠[]:=by simp
 obtain⟨N,hNw⟩:∃N,w.heap.size=N:=⟨_,rfl⟩;have hN':w'.heap.size=N:=hRel.agree.size.trans hNw;have hSo:∀b,S b->b<N:=λb hb=>by rw[<- hNw];exact hRel.old b hb
 have hfut:∀b,N<=b->X b:=λb hb=>hRel.future b (by rw[hNw];exact hb);have hCL:CW X (w.on w'.tape w'.drawn):=⟨hRel.clean.obj⟩;have hLW:=jtg (X:=X) (b:=b) hcs0 hbk bro (w.on w'.tape w'.drawn) hCL hRel.future hv0 hv1 u2 u3 u4 u5 u6 u7 u8 u9 u10 u11 u12 u13 u14 u15 u16 u17 u18 u19 u20 u21 u22 u23 u24 u25 u26 u27 u28 u29 u30 u31 u32 u33 u34 u35 u36 u37 u38 u39 R1;rw[<- bL]at hLW;obtain⟨⟨g1,wm⟩,hst,hmid⟩:=hLW.star_on (by
  rintro(hb|⟨_,_,_,_,_,_,_,_,_,_,_,_,_,hH,_⟩)
  ·obtain⟨_,hg⟩:=Term.goes (s:=(_,_)) hT λhf=>hb.1 hf.1;obtain⟨_,_,_,hs,_⟩:=hg w'.tape w'.drawn;exact hb.2 _ _ _ hs
  ·have:=hH.size;simp[bs8]at this)
 have hTm:=Term.star (s:=(_,_)) hT hst;rcases hmid with hb|⟨C0,C1,a1,n1,c1,sp,n,c,row,x,y,hF,hM,hHm,u0,u1,u2,u3,u4,u5,u7,u8,u9,u10,u11,u12,u13,u14,u15,u16,u17,u18,u20,u21,u22,u23,u24,u25,u26,u27,u28,u29,u30,u31,u32,u33,u34,u35,u36,u37,u38,u39,R3,eg⟩
 ·exact(hb.no hTm).elim
 simp only at eg hHm;subst eg;have h0:gs[0]?=some (G (b.at ⟨(v0::v1::z2::z3::z4::z5::z6::z7::z8::z9::z10::z11::z12::z13::z14::z15::z16::z17::z18::z19::z20::z21::z22::z23::z24::R2).toArray,[]⟩ [.code (Tryz.f116.body.getD .skip)]) (fr::cs++base)):=by
  rw[hRel.at0,bC];rfl
 have hcp:=joz T hRel.agree hCL hRel.future hRel.high hRel.sub hRel.old hv0 hv1 hF hM;have hld:=jp0 T hRel.agree hCL hRel.future hRel.high hRel.sub hRel.old hv0 hv1 hF hM;obtain⟨erow,her⟩:∃r:List Value,row=r.toArray:=⟨row.toList,by simp⟩;subst her;obtain rfl:=hF.e0;obtain rfl:=hF.e1;have hG5:=jfr (S:=S) (b:=b) (cs:=fr::cs++base) (Stop:=λg w1=>Hp w' (bs8 w'.heap.size C0 C1 n qch (qbx w'.heap.size) qwg erow.toArray x y) w1/\∃(z0 z1 z2 z3 z4 z9 z10 z11 z12 z13 z14 z15 z16 z17 z18 z19 z20 z21 z22 z23 z24:Value) (R:List Value),
   g=G (b.at ⟨(z0::z1::z2::z3::z4::.pointer (some ⟨w'.heap.size+3,0,none⟩)::.pointer (some ⟨w'.heap.size+5,0,none⟩)::.pointer (some ⟨w'.heap.size+6,0,none⟩)::.pointer (some ⟨w'.heap.size+7,0,none⟩)::z9::z10::z11::z12::z13::z14::z15::z16::z17::z18::z19::z20::z21::z22::z23::z24::R).toArray,[]⟩ [.code rest5]) (fr::cs++base))
  hbk w' (by rw[hN'];exact hSo) hF z2 z3 z4 z5 z6 z7 z8 z9 z10 z11 z12 z13 z14 z15 z16 z17 z18 z19 z20 z21 z22 z23 z24 R2 hM.ox hM.oy hcp hld (λw1 h _ _ _ _ _ _ _ _ _ _ _ _ _ _ _ _=>⟨h,_,_,_,_,_,_,_,_,_,_,_,_,_,_,_,_,_,_,_,_,_,_,rfl⟩)
 obtain⟨K1,gs1,ga,w1,sl1,t1,q1,hr1,_,h01,⟨hH1,z0,z1,z2,z3,z4,z9,z10,z11,z12,z13,z14,z15,z16,z17,z18,z19,z20,z21,z22,z23,z24,R4,ega⟩,hL1,hP1⟩:=walk_beside (P:=Tryz.prog) (Shun:=shutL S) (B:=w'.heap.size+7) (D:=DE S (w'.heap.size+7)) (λ_ _ _ h=>h) _ 200 gs _ w' sl t q (Nat.le_refl _) h0 hRel.leavers (hRel.past.mono (by omega)) hG5;subst ega;clear hG5 hcp hld h0;rw[hN']at h01 hH1 hP1;have hrl:erow.length=n*2:=by simpa using hM.size
 obtain⟨K2,gs2,w2,sl2,t2,q2,az,hr2,h6,h25,hd,h02,hK,hFin,hL2,hP2⟩:=phaseP (N:=N) hbk hSo (by have:=hF.le;omega) hrl hM.ox hM.oy hN' hH1 z0 z1 z2 z3 z4 z9 z10 z11 z12 z13 z14 z15 z16 z17 z18 z19 z20 z21 z22 z23 z24 R4 h01 hL1 hP1;obtain⟨hs11,hb8,hb9,k,hb5,hb10⟩:=hFin;have hcv:CV (shut1 X N) (.slice (some ⟨N+10,0,none⟩) (n+1) (cutq n k)):=j1x λh=>by
  have:=h.2;simp only at this;omega
 obtain⟨c',hc',hret⟩:=j4q (P':=tnp) (P:=Tryz.prog) (fr:=b) (cs:=cs) (by rw[bk];exact⟨hk1,hk2⟩) (hfr.mono (Y:=shut1 X N) λb h=>h.1) (λc hc=>(hcs c hc).mono (Y:=shut1 X N) λb h=>h.1) hcv;have hG6:=restC (S:=λb=>S b\/b=N+7) (N:=N) (B:=N+11) (b:=b) (c:=fr) (c':=c') (cs:=cs++base) bfn hbk (λh=>by rcases h with h|h;have:=hSo _ h;omega;omega) (by omega) h6 h25 hd w2 hb5 hret;obtain⟨K3,gs3,gb,w3,sl3,t3,q3,hr3,_,h03,⟨hH3,egb⟩,hL3,hP3⟩:=walk_beside (P:=Tryz.prog) (Shun:=shutL λb=>S b\/b=N+7) (B:=N+11) (D:=DE (λb=>S b\/b=N+7) (N+11)) (λ_ _ _ h=>h) _ 20 gs2 _ w2 sl2 t2 q2 (Nat.le_refl _) h02 hL2 hP2 hG6;subst egb;clear hG6;have hHk:Hp ((w.on w'.tape w'.drawn).on (λ_ _=>k) 0) (bs8 N C0 C1 n nul nul nul erow.toArray x y) (wm.on (λ_ _=>k) 0):=by
  have e:(w.on w'.tape w'.drawn).heap.size=N:=hNw;rw[e]at hHm;exact⟨hHm.heap,rfl,hHm.os,hHm.output⟩
 have hLD:=jjz (Stop:=λg w4=>Hp ((w.on w'.tape w'.drawn).on (λ_ _=>k) 0) (bs11 N C0 C1 n k nul nul nul erow x y) w4/\∃(T:Array Value) (todo:List Item),T[4]?=some (.slice (some ⟨N+10,0,none⟩) (n+1) (cutq n k))/\g=G { b.at ⟨T,[]⟩ todo with mode:=.returning } (fr::cs))
  hcs0 hbk bro ((w.on w'.tape w'.drawn).on (λ_ _=>k) 0) hNw (λ_ _=>rfl) hF.le hrl hM.ox hM.oy (wm.on (λ_ _=>k) 0) hHk u0 u1 u2 u3 u4 u5 u7 u8 u9 u10 u11 u12 u13 u14 u15 u16 u17 u18 u20 u21 u22 u23 u24 u25 u26 u27 u28 u29 u30 u31 u32 u33 u34 u35 u36 u37 u38 u39 R3 (λw4 h T hT4 todo=>⟨h,T,todo,hT4,rfl⟩)
 have em:(w.on w'.tape w'.drawn).heap.size=N:=hNw;rw[em]at hst hTm;obtain⟨⟨g4,w4⟩,hst4,hH4,T4,todo4,hT4,eg4⟩:=hLD.star_on (by
  rintro⟨h,_⟩;have h1:=h.size;have h2:=hHk.size;rw[h1]at h2;simp[bs8,bs11]at h2)
 simp only at eg4 hH4;subst eg4;have hst5:StarL tnp (G c' cs,w4) (G { b.at ⟨T4,[]⟩ todo4 with mode:=.returning } (fr::cs),w4):=by
  refine .step ⟨w4.tape,w4.drawn,#[],?_⟩ .refl;unfold stepL;rw[if_neg λhl=>hcs0 hl.1];show stepG tnp true (G { b.at ⟨T4,[]⟩ todo4 with mode:=.returning } (fr::cs)) w4=_;rw[j8k (fn:=Twn.pass) (t:=4) (v:=.slice (some ⟨N+10,0,none⟩) (n+1) (cutq n k)) rfl rfl (by show tnp.funcs[b.fn]?=_;rw[bfn];exact Twn.func116) rfl hT4,j7v (fr:=b) (by rfl),hret];rfl
 refine⟨K1+(K2+K3),shut1 X N,λb=>S b\/b=N+7,gs3,(G c' cs,w4),w3,sl3,t3,q3,Go.ConcX.runNT_trans hr1 (Go.ConcX.runNT_trans hr2 hr3),hst.trans (hst4.trans hst5),⟨hc',λc hc=>(hcs c hc).mono λb h=>h.1,rfl,rfl,rfl⟩,?_,λb h=>h.1,λb hb hlt=>⟨hb,.inl (by rw[<- hNw];exact hlt)⟩,?_⟩
 ·exact jvp (wL:=w.on w'.tape w'.drawn) hNw hRel.agree hCL hfut hRel.high hRel.sub hSo (j3d hv0) (j3d hv1) (λv hv=>hM.cl v (by simpa using hv)) hM.cx hM.cy hH1 hK hb5 hb8 hb9 hb10 hs11 hH3 hH4 h03 hL3 hP3
 ·have:=hH4.size;show w.heap.size<=w4.heap.size;rw[this];exact Nat.le_add_right _ _
end Go.Proofs.Mn
namespace Go.Proofs.Mn
open Go Go.Conc
section
variable [Atom]{P' P:Program}{X:Nat->Prop}
theorem jkt {α:Type}{Q:α->Prop}{c:Prop} [Decidable c]{A A' B B':Sem α}(h1:Cl P' P X Q A A')(h2:Cl P' P X Q B B'):Cl P' P X Q (if c then A else B) (if c then A' else B'):=by
 split
 ·exact h1
 ·exact h2
theorem jwe {args:Array Value}(h:∀v∈args,CV X v):Cl P' P X (CV X) (Extern.AbiNoEscape.same args) (Extern.AbiNoEscape.same args):=by
 obtain⟨l⟩:=args
 match l,h with
 | [x],h=>exact j7 (h _ (by simp))
 | [],_=>exact j8
 | _::_::_,_=>exact j8
theorem jaa:∀(n:Nat)(a:Addr)(acc:ByteArray),¬X a.block->Cl P' P X (λ_=>True) (Extern.Bytes.loadBytes a n acc) (Extern.Bytes.loadBytes a n acc)
 | 0,_,_,_=>j7 trivial
 | n+1,a,acc,h=>by
  unfold Extern.Bytes.loadBytes;refine(jba h).bind λv _=>?_;split
  ·exact jaa n _ _ (by rw[j2r];exact h)
  ·exact j8
theorem j6l {v:Value}(h:CV X v):Cl P' P X (λ_=>True) (Extern.Bytes.bytesOf v) (Extern.Bytes.bytesOf v):=by
 unfold Extern.Bytes.bytesOf;split
 ·exact j7 trivial
 ·exact j7 trivial
 ·exact jaa _ _ _ (j26 h)
 ·exact j8
theorem jij {v:Value}:Cl P' P X (λ_=>True) (Extern.Bytes.asByte v) (Extern.Bytes.asByte v):=by
 unfold Extern.Bytes.asByte;split
 ·exact j7 trivial
 ·exact j8
theorem j7s (n:Int):CV X (goInt n):=.int
theorem juc {args:Array Value}(h:∀v∈args,CV X v):Cl P' P X (CV X) (Extern.BytealgCount.count args) (Extern.BytealgCount.count args):=by
 obtain⟨l⟩:=args
 match l,h with
 | [x,y],h=>exact(j6l (h x (by simp))).bind λ_ _=>jij.bind λ_ _=>j7 (j7s _)
 | [],_=>exact j8
 | [_],_=>exact j8
 | _::_::_::_,_=>exact j8
theorem jik {args:Array Value}(h:∀v∈args,CV X v):Cl P' P X (CV X) (Extern.BytealgIndexByte.indexByte args) (Extern.BytealgIndexByte.indexByte args):=by
 obtain⟨l⟩:=args
 match l,h with
 | [x,y],h=>
  refine(j6l (h x (by simp))).bind λb _=>jij.bind λc _=>?_;split
  ·exact j7 (j7s _)
  ·exact j7 (j7s _)
 | [],_=>exact j8
 | [_],_=>exact j8
 | _::_::_::_,_=>exact j8
theorem jg2 (H:Pair P' P X){name:String}:Cl P' P X (λa=>¬X a.block) (globalAddr name) (globalAddr name):=by
 unfold globalAddr;refine j12 ?_;rw[j69 H.tables];split
 ·rename_i g hg
  refine j7 λhx=>?_;have h1:=H.high _ hx;have h2:g<P.globals.size:=by
   obtain⟨h,_⟩:=Array.findIdx?_eq_some_iff_getElem.1 hg;exact h
  simp only at h1;omega
 ·exact j8
theorem jud (H:Pair P' P X){args:Array Value}(h:∀v∈args,CV X v):Cl P' P X (CV X) (Extern.BytealgIndex.index args) (Extern.BytealgIndex.index args):=by
 have hm:Cl P' P X (λ_=>True) Extern.BytealgIndex.maxLen Extern.BytealgIndex.maxLen:=by
  unfold Extern.BytealgIndex.maxLen;exact(jg2 H).bind λa ha=>(jba ha).bind λ_ _=>jv
 obtain⟨l⟩:=args
 match l,h with
 | [x,y],h=>
  refine(j6l (h x (by simp))).bind λa _=>(j6l (h y (by simp))).bind λb _=>?_;refine hm.bind λm _=>?_;refine jkt jy ?_;refine jkt jy ?_;generalize List.find? _ _=o;cases o with
  | none=>exact j7 (j7s _)
  | some i=>exact j7 (j7s _)
 | [],_=>exact j8
 | [_],_=>exact j8
 | _::_::_::_,_=>exact j8
theorem js8 (H:Pair P' P X){s:String}{t:TypeId}:Cl P' P X (λ_=>True) (Extern.Rtype.noPack s t) (Extern.Rtype.noPack s t):=by
 unfold Extern.Rtype.noPack;refine j12 ?_;rw[jlq H.tables];exact jkt j14 (j7 trivial)
theorem jg3 (H:Pair P' P X){s:String}{t:TypeId}:Cl P' P X (λ_=>True) (Extern.Rtype.noPackHeld s t) (Extern.Rtype.noPackHeld s t):=by
 unfold Extern.Rtype.noPackHeld;refine j12 (j12 ?_);rw[j8n H.tables,j2w H.tables];exact jkt j14 (j7 trivial)
theorem jkl (H:Pair P' P X){h:Value}:Cl P' P X (λ_=>True) (Extern.Rtype.ofHandle h) (Extern.Rtype.ofHandle h):=by
 unfold Extern.Rtype.ofHandle;refine j12 ?_;have e:handleType P' h=handleType P h:=by unfold handleType;rw[j69 H.tables]
 rw[e];split
 ·exact j7 trivial
 ·exact j8
theorem job (H:Pair P' P X){v:Value}:Cl P' P X (λ_=>True) (Extern.ReflectliteType.ofRtype v) (Extern.ReflectliteType.ofRtype v):=by
 cases v with
 | agg cs=>
  obtain⟨l⟩:=cs
  match l with
  | [h]=>exact(jkl H).bind λt _=>(js8 H).bind λ_ _=>j7 trivial
  | []=>exact j8
  | _::_::_=>exact j8
 | _=>exact j8
theorem jg1 (H:Pair P' P X){args:Array Value}:Cl P' P X (CV X) (Extern.ReflectliteType.method (λt=>do Extern.Rtype.noPackHeld "Comparable" t;pure (.bool (<- typeInfo t).comparable)) args) (Extern.ReflectliteType.method (λt=>do Extern.Rtype.noPackHeld "Comparable" t;pure (.bool (<- typeInfo t).comparable)) args):=by
 obtain⟨l⟩:=args
 match l with
 | [x]=>exact(job H).bind λt _=>(jg3 H).bind λ_ _=>(je H).bind λ_ _=>j7 .bool
 | []=>exact j8
 | _::_::_=>exact j8
theorem joa (H:Pair P' P X)(hcut:∀r∈P.cutTypes,r.2≠Atom.t){s:String}:Cl P' P X (λt=>t≠Atom.t) (cutType s) (cutType s):=by
 unfold cutType;refine j12 ?_;rw[j9p H.tables];split
 ·rename_i t h
  exact j7 (hcut _ (Array.mem_of_find?_eq_some h))
 ·first|exact j8|exact j14
theorem js9 (H:Pair P' P X)(hcut:∀r∈P.cutTypes,r.2≠Atom.t){args:Array Value}:Cl P' P X (CV X) (Extern.ReflectliteType.typeOf args) (Extern.ReflectliteType.typeOf args):=by
 have hh:∀t,Cl P' P X (CV X) (Extern.Rtype.handle t) (Extern.Rtype.handle t):=λt=>by
  unfold Extern.Rtype.handle;refine j12 ?_;rw[jlp H];exact j7 (jbo H t)
 have go:∀t,Cl P' P X (CV X) (Extern.ReflectliteType.toType t) (Extern.ReflectliteType.toType t):=λt=>by
  unfold Extern.ReflectliteType.toType;refine(joa H hcut).bind λct hct=>(hh t).bind λv hv=>j7 (.iface hct (.agg ?_));intro w hw;simp at hw;subst hw;exact hv
 obtain⟨l⟩:=args
 match l with
 | []=>exact j8
 | _::_::_=>exact j8
 | [x]=>
  cases x with
  | nilIface=>exact j7 .nilIface
  | iface t v=>exact go t
  | _=>exact j8
end
open Go Go.Conc
theorem jgw {α β:Type}{I:β->Prop}{f:α->β->Option (ForInStep β)}(hf:∀a b r,I b->f a b=some r->I r.value):∀(l:List α)(b s:β),I b->forIn l b f=some s->I s
 | [],b,s,hb,h=>by
  simp only[List.forIn_nil,pure,Option.some.injEq]at h;subst h;exact hb
 | a::l,b,s,hb,h=>by
  simp only[List.forIn_cons,bind,Option.bind]at h;cases hr:f a b with
  | none=>rw[hr]at h;cases h
  | some r=>
   rw[hr]at h;have:=hf a b r hb hr;cases r with
   | done b'=>
    simp only[pure,Option.some.injEq]at h;subst h;exact this
   | yield b'=>exact jgw hf l b' s this h
variable [Atom]{X:Nat->Prop}
theorem jn3 {n:Nat}{cs:Array Value}(h:∀v∈cs,CV X v):∀v∈(Array.replicate n cs).flatten,CV X v:=by
 intro v hv;obtain⟨a,ha,hva⟩:=Array.mem_flatten.1 hv;rw[Array.eq_of_mem_replicate ha]at hva;exact h v hva
theorem jka {info:TypeId->Option TypeInfo}(hi:∀t i z,info t=some i->i.zero=some z->CV X z){fs:Array Field}{i:TypeInfo}{z:Value}(h:Made.reckonStruct info fs=some i)(hz:i.zero=some z):CV X z:=by
 unfold Made.reckonStruct at h;dsimp only at h;rw[<- Array.forIn_toList,Option.bind_eq_bind,Option.bind_eq_some_iff]at h;obtain⟨s,hs,h⟩:=h;have key:=jgw (I:=λs=>∀cs,s.2.2.2.2.2.2.2.1=some cs->∀v∈cs,CV X v) (λf s r hI hr=>?_) fs.toList _ s (by intro cs h;cases h;simp) hs
 ·clear hs;have hzz:i.zero=s.2.2.2.2.2.2.2.1.map .agg:=by
   split at h
   ·simp only[pure,Option.some.injEq]at h;subst h;rfl
   ·simp only[pure,Option.some.injEq]at h;subst h;rfl
  rw[hzz]at hz;obtain⟨cs,h1,rfl⟩:=Option.map_eq_some_iff.1 hz;exact .agg (key cs h1)
 ·have fin:∀(j:TypeInfo),info f.type=some j->∀cs,(if s.2.1+j.size>Made.mostCells then none else s.2.2.2.2.2.2.2.1.bind λa=>j.zero.bind λb=>some (a++b.cells))=some cs->∀v∈cs,CV X v:=λj hj cs hcs=>by
   split at hcs
   ·cases hcs
   ·obtain⟨a,ha,hcs⟩:=Option.bind_eq_some_iff.1 hcs;obtain⟨b,hb,hcs⟩:=Option.bind_eq_some_iff.1 hcs;simp only[Option.some.injEq]at hcs;subst hcs;exact j1z (hI a ha) (j2q (hi _ j b hj hb))
  cases hj:info f.type with
  | none=>rw[hj]at hr;cases hr
  | some j=>
   rw[hj]at hr;simp only[bind,Option.bind,pure]at hr
   repeat' ((try dsimp only at hr);split at hr<;>try (cases hr;done))
   all_goals
    first
    | (cases hr;done)
    | (cases hr;exact fin j hj)
    | (cases hr;intro cs hcs;cases hcs;done)
    | (cases hr;intro cs hcs;cases hcs;exact j1z (hI _ (by assumption)) (j2q (hi _ j _ hj (by assumption))))
theorem jk5 {info:TypeId->Option TypeInfo}(hi:∀t i z,info t=some i->i.zero=some z->CV X z){d:TypeDesc}{i:TypeInfo}{z:Value}(h:Made.reckon info d=some i)(hz:i.zero=some z):CV X z:=by
 unfold Made.reckon at h;cases d with
 | struct fs=>exact jka hi h hz
 | array n e=>
  simp only[bind,Option.bind]at h;cases hie:info e with
  | none=>rw[hie]at h;cases h
  | some ie=>
   rw[hie]at h;simp only at h;cases hsp:Made.spell ie with
   | none=>rw[hsp]at h;cases h
   | some s=>
    rw[hsp]at h;simp only[pure,Option.some.injEq]at h;subst h;simp only at hz;split at hz
    ·cases hz
    ·split at hz
     ·cases hz;exact .agg (by simp)
     ·obtain⟨z0,h0,rfl⟩:=Option.map_eq_some_iff.1 hz;exact .agg (jn3 (j2q (hi e ie z0 hie h0)))
 | _=>
  simp only[bind,Option.bind,pure]at h
  repeat' ((try dsimp only at h);split at h<;>try (cases h;done))
  all_goals
   first
   | (cases h;done)
   | (cases h;cases hz;first|exact j60|exact j6y|exact .map (by intro x e;cases e)|exact .chan (by intro x e;cases e)|exact .nilFunc)
   | skip
theorem jbv {T:Tables}(h0:∀(t:Nat) i z,T.types[t]?=some i->i.zero=some z->CV X z):∀(n:Nat) t i z,Made.infoAt T n t=some i->i.zero=some z->CV X z
 | 0,_,_,_,h,_=>by cases h
 | n+1,t,i,z,h,hz=>by
  unfold Made.infoAt at h;split at h
  ·exact h0 t i z h hz
  ·obtain⟨d,_,hd⟩:=Option.bind_eq_some_iff.1 h;exact jk5 (jbv h0 n) hd hz
theorem jq4 {T:Tables}(h0:∀(t:Nat) i z,T.types[t]?=some i->i.zero=some z->CV X z){t:TypeId}{i:TypeInfo}{z:Value}(h:T.info? t=some i)(hz:i.zero=some z):CV X z:=by
 unfold Tables.info? at h;split at h
 ·exact h0 t i z h hz
 ·exact jbv h0 _ t i z h hz
end Go.Proofs.Mn
