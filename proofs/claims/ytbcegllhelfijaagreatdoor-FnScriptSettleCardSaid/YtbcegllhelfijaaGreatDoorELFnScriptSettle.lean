/-
  A part of the proof.
-/
import Derived.Test.YtbcegllhelfijaaGreatDoorY29
set_option linter.all false
set_option maxRecDepth 100000
set_option maxHeartbeats 8000000
namespace Go.Proofs.YtbcegllhelfijaaGreatDoor
open Go.Proofs.Mn
open Go Go.Conc Go.RowKit Go.Conc.Lib Go.ConcR.Gen Go.ConcN.Gen
theorem jyd {P:Program}{t:TypeId}(ht:P.underlying t=some .string)(y:ByteArray)(n:Int)(w:World)(h0:0<=n)(h1:n<=y.size):(Instr.sliceAt t (.string y) (some (.int .i64 n)) none none).events P w #[]=#[]:=by
 have e:(0<=n/\n<=(y.size:Int)):=⟨h0,h1⟩;have hu:(underlying t).run P w=.ok .string w:=by simp[underlying,program,go_sem,Sem.run,bind,Sem.bind,ht,pure]
 have he:(underlying t).events P w #[]=#[]:=by simp[underlying,program,Sem.events,Sem.runT,bind,Sem.bind,ht,pure]
 simp[Instr.sliceAt,Instr.slice,Instr.sliceBounds,Instr.sliceBound,go_sem,hu,he,e]
theorem j6n (a:Option Addr)(n cap:Nat)(hn:¬((n:Int)>1048576)) :
  ∃law1:Frame,ToCall (G (Frame.enter Tryz.prog 4 #[.slice a n cap] .normal) []) 12 #[.slice a n cap] law1/\∀T:ByteArray,T.size<=10000->∃law2:Frame,ToCall (G (law1.finish (.string T)) []) 13 #[.string T] law2/\∀V:ByteArray,∃law3:Frame,ToCall (G (law2.finish (.string V)) []) 14 #[.string T] law3/\((T.size:Int)+7>400->ToEnd (G (law3.finish (.string V)) []))/\(¬((T.size:Int)+7>400)->∃law4:Frame,ToCall (G (law3.finish (.string V)) []) 15 #[.string T] law4/\∀X:ByteArray,X.size<=10000->∃law5:Frame,ToCall (G (law4.finish (.string X)) []) 13 #[.string (X++⟨#[115,101,116,116,108,101,10]⟩)] law5/\∀Y:ByteArray,(6:Int)<=Y.size->(Y.size:Int)<=10000000->Y.extract (Y.size-6) Y.size=⟨#[113,117,105,101,116,10]⟩->ToEnd (G (law5.finish (.string Y)) [])):=by
 have e0:=j18 (P:=Tryz.prog) (args:=#[.slice a n cap]) (kind:=.normal) (T:=#[.slice a n cap,undef,undef,undef,undef,undef,undef,undef,undef,undef,undef,undef,undef,undef,undef,undef,undef,undef,undef,undef,undef,undef,undef,undef,undef,undef,undef,undef,undef,undef,undef,undef,undef,undef,undef,undef,undef,undef,undef,undef,undef,undef,undef]) Tryz.func4 rfl (by kernel_rfl);obtain⟨b,hb⟩:∃b:Frame,b=({ fn:=4,tmps:=#[],todo:=[],defers:=[],mode:=.run,kind:=.normal,roundOf:=none }:Frame):=⟨_,rfl⟩;rw[<- hb]at e0;rw[e0];have hbk:b.kind≠.early:=by rw[hb];simp
 refine⟨?law1,⟨?_,?_,?goes1⟩,?next1⟩
 case goes1=>
  intro S B W;have hH:AtRel W W:=atRel_refl W;try simp only[Tryz.f4,Option.getD_some]
  refine Goes.step rfl λwz kv=>?_;replace hH:=hH.atr kv;clear kv;rw[stepG_seq];simp only[goes_go];refine⟨j6,?_⟩;refine Goes.step rfl λwz kv=>?_;replace hH:=hH.atr kv;clear kv;rw[stepG_region];simp only[goes_go,List.size_toArray,List.length_cons,List.length_nil,Nat.reduceAdd,Nat.zero_add,List.range,List.range.loop];refine⟨j6,?_⟩;refine Goes.step rfl λwz kv=>?_;replace hH:=hH.atr kv;clear kv;refine goes_oper_k rfl rfl hbk λK hK=>?_;go_simp;refine hK _ _ ⟨λe he=>?_,?_⟩
  ·have hm:=mem_listed he;simp[go_sem,execOp,resolve,invoke,builtin,Act.eval]at hm
  clear hK K;try walk_nrm
  refine Goes.step rfl λwz kv=>?_;replace hH:=hH.atr kv;clear kv;rw[stepG_region_end];simp only[goes_go];refine⟨j6,?_⟩;refine Goes.step rfl λwz kv=>?_;replace hH:=hH.atr kv;clear kv;rw[stepG_seq];simp only[goes_go];refine⟨j6,?_⟩;refine Goes.step rfl λwz kv=>?_;replace hH:=hH.atr kv;clear kv;rw[stepG_seq];simp only[goes_go];refine⟨j6,?_⟩;refine Goes.step rfl λwz kv=>?_;replace hH:=hH.atr kv;clear kv;rw[stepG_region];simp only[goes_go,List.size_toArray,List.length_cons,List.length_nil,Nat.reduceAdd,Nat.zero_add,List.range,List.range.loop];refine⟨j6,?_⟩;refine Goes.step rfl λwz kv=>?_;replace hH:=hH.atr kv;clear kv;refine goes_oper_k rfl rfl hbk λK hK=>?_;go_simp;refine hK _ _ ⟨λe he=>?_,?_⟩
  ·have hm:=mem_listed he;simp[go_sem,execOp,resolve,invoke,builtin,Act.eval]at hm
  clear hK K;try walk_nrm
  refine Goes.step rfl λwz kv=>?_;replace hH:=hH.atr kv;clear kv;refine goes_oper_k rfl rfl hbk λK hK=>?_;go_simp;refine hK _ _ ⟨λe he=>?_,?_⟩
  ·have hm:=mem_listed he;simp[go_sem,execOp,resolve,invoke,builtin,Act.eval,Builtin.len_]at hm
  clear hK K;try walk_nrm
  refine Goes.step rfl λwz kv=>?_;replace hH:=hH.atr kv;clear kv;refine goes_oper_k rfl rfl hbk λK hK=>?_;go_simp;refine hK _ _ ⟨λe he=>?_,?_⟩
  ·have hm:=mem_listed he;simp[go_sem,execOp,resolve,invoke,builtin,Act.eval]at hm
  clear hK K;try walk_nrm
  refine Goes.step rfl λwz kv=>?_;replace hH:=hH.atr kv;clear kv;rw[stepG_region_end];simp only[goes_go];refine⟨j6,?_⟩;refine Goes.step rfl λwz kv=>?_;replace hH:=hH.atr kv;clear kv;rw[stepG_cond (t:=false) (by simp[Act.eval])];simp only[goes_go];refine⟨j6,?_⟩;simp only[Bool.false_eq_true,if_false];refine Goes.step rfl λwz kv=>?_;replace hH:=hH.atr kv;clear kv;rw[stepG_skip];simp only[goes_go];refine⟨j6,?_⟩;refine Goes.step rfl λwz kv=>?_;replace hH:=hH.atr kv;clear kv;rw[stepG_seq];simp only[goes_go];refine⟨j6,?_⟩;refine Goes.step rfl λwz kv=>?_;replace hH:=hH.atr kv;clear kv;rw[stepG_region];simp only[goes_go,List.size_toArray,List.length_cons,List.length_nil,Nat.reduceAdd,Nat.zero_add,List.range,List.range.loop];refine⟨j6,?_⟩;refine Goes.step rfl λwz kv=>?_;replace hH:=hH.atr kv;clear kv;refine goes_oper_k rfl rfl hbk λK hK=>?_;go_simp;refine hK _ _ ⟨λe he=>?_,?_⟩
  ·have hm:=mem_listed he;simp[go_sem,execOp,resolve,invoke,builtin,Act.eval]at hm
  clear hK K;try walk_nrm
  refine Goes.step rfl λwz kv=>?_;replace hH:=hH.atr kv;clear kv;refine goes_call rfl rfl hbk rfl Tryz.func12 (by kernel_rfl) rfl ⟨j6,?_⟩;refine Goes.stop (λwz kv=>⟨hH.atr kv,?_⟩);rw[enter_at #[.slice a n cap] Tryz.func12 rfl];simp only[List.map_toArray,List.map_cons,List.map_nil,Act.eval];exact rfl
 ·rw[hb];rfl
 ·rw[hb];rfl
 case next1=>
  intro T hT;have w7:IntKind.i64.wrap ((T.size:Int)+7)=(T.size:Int)+7:=IntWalk.i64_in _ (by omega);have w4:IntKind.i64.wrap ((T.size:Int)+4)=(T.size:Int)+4:=IntWalk.i64_in _ (by omega);refine⟨?law2,⟨?_,?_,?goes2⟩,?next2⟩
  case goes2=>
   intro S B W;have hH:AtRel W W:=atRel_refl W;rw[ju rfl rfl]
   walk_nrm
   refine Goes.step rfl λwz kv=>?_;replace hH:=hH.atr kv;clear kv;refine goes_oper_k rfl rfl hbk λK hK=>?_;go_simp;refine hK _ _ ⟨λe he=>?_,?_⟩
   ·have hm:=mem_listed he;simp[go_sem,execOp,resolve,invoke,builtin,Act.eval]at hm
   clear hK K;try walk_nrm
   refine Goes.step rfl λwz kv=>?_;replace hH:=hH.atr kv;clear kv;rw[stepG_region_end];simp only[goes_go];refine⟨j6,?_⟩;refine Goes.step rfl λwz kv=>?_;replace hH:=hH.atr kv;clear kv;rw[stepG_seq];simp only[goes_go];refine⟨j6,?_⟩;refine Goes.step rfl λwz kv=>?_;replace hH:=hH.atr kv;clear kv;rw[stepG_region];simp only[goes_go,List.size_toArray,List.length_cons,List.length_nil,Nat.reduceAdd,Nat.zero_add,List.range,List.range.loop];refine⟨j6,?_⟩;refine Goes.step rfl λwz kv=>?_;replace hH:=hH.atr kv;clear kv;refine goes_oper_k rfl rfl hbk λK hK=>?_;go_simp;refine hK _ _ ⟨λe he=>?_,?_⟩
   ·have hm:=mem_listed he;simp[go_sem,execOp,resolve,invoke,builtin,Act.eval]at hm
   clear hK K;try walk_nrm
   refine Goes.step rfl λwz kv=>?_;replace hH:=hH.atr kv;clear kv;refine goes_call rfl rfl hbk rfl Tryz.func13 (by kernel_rfl) rfl ⟨j6,?_⟩;refine Goes.stop (λwz kv=>⟨hH.atr kv,?_⟩);rw[enter_at #[.string T] Tryz.func13 rfl];simp only[List.map_toArray,List.map_cons,List.map_nil,Act.eval];exact rfl
  ·rw[hb];rfl
  ·rw[hb];rfl
  case next2=>
   intro V;refine⟨?law3,⟨?_,?_,?goes3⟩,?next3⟩
   case goes3=>
    intro S B W;have hH:AtRel W W:=atRel_refl W;rw[ju rfl rfl]
    walk_nrm
    refine Goes.step rfl λwz kv=>?_;replace hH:=hH.atr kv;clear kv;refine goes_oper_k rfl rfl hbk λK hK=>?_;go_simp;refine hK _ _ ⟨λe he=>?_,?_⟩
    ·have hm:=mem_listed he;simp[go_sem,execOp,resolve,invoke,builtin,Act.eval]at hm
    clear hK K;try walk_nrm
    refine Goes.step rfl λwz kv=>?_;replace hH:=hH.atr kv;clear kv;rw[stepG_region_end];simp only[goes_go];refine⟨j6,?_⟩;refine Goes.step rfl λwz kv=>?_;replace hH:=hH.atr kv;clear kv;rw[stepG_seq];simp only[goes_go];refine⟨j6,?_⟩;refine Goes.step rfl λwz kv=>?_;replace hH:=hH.atr kv;clear kv;rw[stepG_region];simp only[goes_go,List.size_toArray,List.length_cons,List.length_nil,Nat.reduceAdd,Nat.zero_add,List.range,List.range.loop];refine⟨j6,?_⟩;refine Goes.step rfl λwz kv=>?_;replace hH:=hH.atr kv;clear kv;refine goes_oper_k rfl rfl hbk λK hK=>?_;go_simp;refine hK _ _ ⟨λe he=>?_,?_⟩
    ·have hm:=mem_listed he;simp[go_sem,execOp,resolve,invoke,builtin,Act.eval]at hm
    clear hK K;try walk_nrm
    refine Goes.step rfl λwz kv=>?_;replace hH:=hH.atr kv;clear kv;refine goes_call rfl rfl hbk rfl Tryz.func14 (by kernel_rfl) rfl ⟨j6,?_⟩;refine Goes.stop (λwz kv=>⟨hH.atr kv,?_⟩);rw[enter_at #[.string T] Tryz.func14 rfl];simp only[List.map_toArray,List.map_cons,List.map_nil,Act.eval];exact rfl
   ·rw[hb];rfl
   ·rw[hb];rfl
   case next3=>
    refine⟨?_,?_⟩
    ·intro hL;intro Post S B W hPost;have hH:AtRel W W:=atRel_refl W;rw[ju rfl rfl]
     walk_nrm
     refine Goes.step rfl λwz kv=>?_;replace hH:=hH.atr kv;clear kv;refine goes_oper_k rfl rfl hbk λK hK=>?_;go_simp;refine hK _ _ ⟨λe he=>?_,?_⟩
     ·have hm:=mem_listed he;simp[go_sem,execOp,resolve,invoke,builtin,Act.eval]at hm
     clear hK K;try walk_nrm
     refine Goes.step rfl λwz kv=>?_;replace hH:=hH.atr kv;clear kv;rw[stepG_region_end];simp only[goes_go];refine⟨j6,?_⟩;refine Goes.step rfl λwz kv=>?_;replace hH:=hH.atr kv;clear kv;rw[stepG_seq];simp only[goes_go];refine⟨j6,?_⟩;refine Goes.step rfl λwz kv=>?_;replace hH:=hH.atr kv;clear kv;rw[stepG_seq];simp only[goes_go];refine⟨j6,?_⟩;refine Goes.step rfl λwz kv=>?_;replace hH:=hH.atr kv;clear kv;rw[stepG_region];simp only[goes_go,List.size_toArray,List.length_cons,List.length_nil,Nat.reduceAdd,Nat.zero_add,List.range,List.range.loop];refine⟨j6,?_⟩;refine Goes.step rfl λwz kv=>?_;replace hH:=hH.atr kv;clear kv;refine goes_oper_k rfl rfl hbk λK hK=>?_;go_simp;refine hK _ _ ⟨λe he=>?_,?_⟩
     ·have hm:=mem_listed he;simp[go_sem,execOp,resolve,invoke,builtin,Act.eval]at hm
     clear hK K;try walk_nrm
     refine Goes.step rfl λwz kv=>?_;replace hH:=hH.atr kv;clear kv;refine goes_oper_k rfl rfl hbk λK hK=>?_;go_simp;refine hK _ _ ⟨λe he=>?_,?_⟩
     ·have hm:=mem_listed he;simp[go_sem,execOp,resolve,invoke,builtin,Act.eval]at hm
     clear hK K;try walk_nrm
     refine Goes.step rfl λwz kv=>?_;replace hH:=hH.atr kv;clear kv;refine goes_oper_k rfl rfl hbk λK hK=>?_;go_simp;refine hK _ _ ⟨λe he=>?_,?_⟩
     ·have hm:=mem_listed he;simp[go_sem,execOp,resolve,invoke,builtin,Act.eval]at hm
     clear hK K;try walk_nrm
     refine Goes.step rfl λwz kv=>?_;replace hH:=hH.atr kv;clear kv;refine goes_oper_k rfl rfl hbk λK hK=>?_;go_simp;refine hK _ _ ⟨λe he=>?_,?_⟩
     ·have hm:=mem_listed he;simp[go_sem,execOp,resolve,invoke,builtin,Act.eval]at hm
     clear hK K;try walk_nrm
     refine Goes.step rfl λwz kv=>?_;replace hH:=hH.atr kv;clear kv;refine goes_oper_k rfl rfl hbk λK hK=>?_;go_simp;refine hK _ _ ⟨λe he=>?_,?_⟩
     ·have hm:=mem_listed he;simp[go_sem,execOp,resolve,invoke,builtin,Act.eval]at hm
     clear hK K;try walk_nrm
     refine Goes.step rfl λwz kv=>?_;replace hH:=hH.atr kv;clear kv;refine goes_oper_k rfl rfl hbk λK hK=>?_;go_simp;refine hK _ _ ⟨λe he=>?_,?_⟩
     ·have hm:=mem_listed he;simp[go_sem,execOp,resolve,invoke,builtin,Act.eval,Builtin.len_]at hm
     clear hK K;try walk_nrm
     refine Goes.step rfl λwz kv=>?_;replace hH:=hH.atr kv;clear kv;refine goes_oper_k rfl rfl hbk λK hK=>?_;go_simp;refine hK _ _ ⟨λe he=>?_,?_⟩
     ·have hm:=mem_listed he;simp[go_sem,execOp,resolve,invoke,builtin,Act.eval]at hm
     clear hK K;try walk_nrm
     refine Goes.step rfl λwz kv=>?_;replace hH:=hH.atr kv;clear kv;refine goes_oper_k rfl rfl hbk λK hK=>?_;go_simp;refine hK _ _ ⟨λe he=>?_,?_⟩
     ·have hm:=mem_listed he;simp[go_sem,execOp,resolve,invoke,builtin,Act.eval]at hm
     clear hK K;try walk_nrm
     refine Goes.step rfl λwz kv=>?_;replace hH:=hH.atr kv;clear kv;refine goes_oper_k rfl rfl hbk λK hK=>?_;go_simp;refine hK _ _ ⟨λe he=>?_,?_⟩
     ·have hm:=mem_listed he;simp[go_sem,execOp,resolve,invoke,builtin,Act.eval]at hm
     clear hK K;try walk_nrm
     refine Goes.step rfl λwz kv=>?_;replace hH:=hH.atr kv;clear kv;rw[stepG_region_end];simp only[goes_go];refine⟨j6,?_⟩;refine Goes.step rfl λwz kv=>?_;replace hH:=hH.atr kv;clear kv;rw[stepG_cond (t:=true) (by simp[Act.eval])];simp only[goes_go];refine⟨j6,?_⟩;simp only[if_true];refine Goes.step rfl λwz kv=>?_;replace hH:=hH.atr kv;clear kv;rw[stepG_seq];simp only[goes_go];refine⟨j6,?_⟩;refine Goes.step rfl λwz kv=>?_;replace hH:=hH.atr kv;clear kv;rw[stepG_region];simp only[goes_go,List.size_toArray,List.length_cons,List.length_nil,Nat.reduceAdd,Nat.zero_add,List.range,List.range.loop];refine⟨j6,?_⟩;refine Goes.step rfl λwz kv=>?_;replace hH:=hH.atr kv;clear kv;refine goes_oper_k rfl rfl hbk λK hK=>?_;go_simp;refine hK _ _ ⟨λe he=>?_,?_⟩
     ·have hm:=mem_listed he;simp[go_sem,execOp,resolve,invoke,builtin,Act.eval]at hm
     clear hK K;try walk_nrm
     refine Goes.step rfl λwz kv=>?_;replace hH:=hH.atr kv;clear kv;refine goes_oper_k rfl rfl hbk λK hK=>?_;go_simp;refine hK _ _ ⟨λe he=>?_,?_⟩
     ·have hm:=mem_listed he;simp[go_sem,execOp,resolve,invoke,builtin,Act.eval]at hm
     clear hK K;try walk_nrm
     refine Goes.step rfl λwz kv=>?_;replace hH:=hH.atr kv;clear kv;refine goes_oper_k rfl rfl hbk λK hK=>?_;go_simp;refine hK _ _ ⟨λe he=>?_,?_⟩
     ·have hm:=mem_listed he;simp[go_sem,execOp,resolve,invoke,builtin,Act.eval]at hm
     clear hK K;try walk_nrm
     refine Goes.step rfl λwz kv=>?_;replace hH:=hH.atr kv;clear kv;refine goes_oper_k rfl rfl hbk λK hK=>?_;go_simp;refine hK _ _ ⟨λe he=>?_,?_⟩
     ·have hm:=mem_listed he;simp[go_sem,execOp,resolve,invoke,builtin,Act.eval]at hm
     clear hK K;try walk_nrm
     refine Goes.step rfl λwz kv=>?_;replace hH:=hH.atr kv;clear kv;rw[stepG_region_end];simp only[goes_go];refine⟨j6,?_⟩;refine Goes.step rfl λwz kv=>?_;replace hH:=hH.atr kv;clear kv;rw[stepG_ret'];simp only[goes_go];refine⟨j6,?_⟩;refine Goes.stop (λwz kv=>⟨rfl,.bool true,#[],?_,λe he=>by simp at he,hPost _ (hH.atr kv)⟩);subst hb;simp[G,stepG,unwind,Frame.at,Tryz.f4,results,Tryz.results4,go_sem,Sem.runT,seen,doReturn,GStep.after];try omega
    ·intro hL;refine⟨?law4,⟨?_,?_,?goes4⟩,?next4⟩
     case goes4=>
      intro S B W;have hH:AtRel W W:=atRel_refl W;rw[ju rfl rfl]
      walk_nrm
      refine Goes.step rfl λwz kv=>?_;replace hH:=hH.atr kv;clear kv;refine goes_oper_k rfl rfl hbk λK hK=>?_;go_simp;refine hK _ _ ⟨λe he=>?_,?_⟩
      ·have hm:=mem_listed he;simp[go_sem,execOp,resolve,invoke,builtin,Act.eval]at hm
      clear hK K;try walk_nrm
      refine Goes.step rfl λwz kv=>?_;replace hH:=hH.atr kv;clear kv;rw[stepG_region_end];simp only[goes_go];refine⟨j6,?_⟩;refine Goes.step rfl λwz kv=>?_;replace hH:=hH.atr kv;clear kv;rw[stepG_seq];simp only[goes_go];refine⟨j6,?_⟩;refine Goes.step rfl λwz kv=>?_;replace hH:=hH.atr kv;clear kv;rw[stepG_seq];simp only[goes_go];refine⟨j6,?_⟩;refine Goes.step rfl λwz kv=>?_;replace hH:=hH.atr kv;clear kv;rw[stepG_region];simp only[goes_go,List.size_toArray,List.length_cons,List.length_nil,Nat.reduceAdd,Nat.zero_add,List.range,List.range.loop];refine⟨j6,?_⟩;refine Goes.step rfl λwz kv=>?_;replace hH:=hH.atr kv;clear kv;refine goes_oper_k rfl rfl hbk λK hK=>?_;go_simp;refine hK _ _ ⟨λe he=>?_,?_⟩
      ·have hm:=mem_listed he;simp[go_sem,execOp,resolve,invoke,builtin,Act.eval]at hm
      clear hK K;try walk_nrm
      refine Goes.step rfl λwz kv=>?_;replace hH:=hH.atr kv;clear kv;refine goes_oper_k rfl rfl hbk λK hK=>?_;go_simp;refine hK _ _ ⟨λe he=>?_,?_⟩
      ·have hm:=mem_listed he;simp[go_sem,execOp,resolve,invoke,builtin,Act.eval]at hm
      clear hK K;try walk_nrm
      refine Goes.step rfl λwz kv=>?_;replace hH:=hH.atr kv;clear kv;refine goes_oper_k rfl rfl hbk λK hK=>?_;go_simp;refine hK _ _ ⟨λe he=>?_,?_⟩
      ·have hm:=mem_listed he;simp[go_sem,execOp,resolve,invoke,builtin,Act.eval]at hm
      clear hK K;try walk_nrm
      refine Goes.step rfl λwz kv=>?_;replace hH:=hH.atr kv;clear kv;refine goes_oper_k rfl rfl hbk λK hK=>?_;go_simp;refine hK _ _ ⟨λe he=>?_,?_⟩
      ·have hm:=mem_listed he;simp[go_sem,execOp,resolve,invoke,builtin,Act.eval]at hm
      clear hK K;try walk_nrm
      refine Goes.step rfl λwz kv=>?_;replace hH:=hH.atr kv;clear kv;refine goes_oper_k rfl rfl hbk λK hK=>?_;go_simp;refine hK _ _ ⟨λe he=>?_,?_⟩
      ·have hm:=mem_listed he;simp[go_sem,execOp,resolve,invoke,builtin,Act.eval]at hm
      clear hK K;try walk_nrm
      refine Goes.step rfl λwz kv=>?_;replace hH:=hH.atr kv;clear kv;refine goes_oper_k rfl rfl hbk λK hK=>?_;go_simp;refine hK _ _ ⟨λe he=>?_,?_⟩
      ·have hm:=mem_listed he;simp[go_sem,execOp,resolve,invoke,builtin,Act.eval,Builtin.len_]at hm
      clear hK K;try walk_nrm
      refine Goes.step rfl λwz kv=>?_;replace hH:=hH.atr kv;clear kv;refine goes_oper_k rfl rfl hbk λK hK=>?_;go_simp;refine hK _ _ ⟨λe he=>?_,?_⟩
      ·have hm:=mem_listed he;simp[go_sem,execOp,resolve,invoke,builtin,Act.eval]at hm
      clear hK K;try walk_nrm
      refine Goes.step rfl λwz kv=>?_;replace hH:=hH.atr kv;clear kv;refine goes_oper_k rfl rfl hbk λK hK=>?_;go_simp;refine hK _ _ ⟨λe he=>?_,?_⟩
      ·have hm:=mem_listed he;simp[go_sem,execOp,resolve,invoke,builtin,Act.eval]at hm
      clear hK K;try walk_nrm
      refine Goes.step rfl λwz kv=>?_;replace hH:=hH.atr kv;clear kv;refine goes_oper_k rfl rfl hbk λK hK=>?_;go_simp;refine hK _ _ ⟨λe he=>?_,?_⟩
      ·have hm:=mem_listed he;simp[go_sem,execOp,resolve,invoke,builtin,Act.eval]at hm
      clear hK K;try walk_nrm
      refine Goes.step rfl λwz kv=>?_;replace hH:=hH.atr kv;clear kv;rw[stepG_region_end];simp only[goes_go];refine⟨j6,?_⟩;refine Goes.step rfl λwz kv=>?_;replace hH:=hH.atr kv;clear kv;rw[stepG_cond (t:=false) (by simp[Act.eval])];simp only[goes_go];refine⟨j6,?_⟩;simp only[Bool.false_eq_true,if_false];refine Goes.step rfl λwz kv=>?_;replace hH:=hH.atr kv;clear kv;rw[stepG_skip];simp only[goes_go];refine⟨j6,?_⟩;refine Goes.step rfl λwz kv=>?_;replace hH:=hH.atr kv;clear kv;rw[stepG_seq];simp only[goes_go];refine⟨j6,?_⟩;refine Goes.step rfl λwz kv=>?_;replace hH:=hH.atr kv;clear kv;rw[stepG_region];simp only[goes_go,List.size_toArray,List.length_cons,List.length_nil,Nat.reduceAdd,Nat.zero_add,List.range,List.range.loop];refine⟨j6,?_⟩;refine Goes.step rfl λwz kv=>?_;replace hH:=hH.atr kv;clear kv;refine goes_oper_k rfl rfl hbk λK hK=>?_;go_simp;refine hK _ _ ⟨λe he=>?_,?_⟩
      ·have hm:=mem_listed he;simp[go_sem,execOp,resolve,invoke,builtin,Act.eval]at hm
      clear hK K;try walk_nrm
      refine Goes.step rfl λwz kv=>?_;replace hH:=hH.atr kv;clear kv;refine goes_call rfl rfl hbk rfl Tryz.func15 (by kernel_rfl) rfl ⟨j6,?_⟩;refine Goes.stop (λwz kv=>⟨hH.atr kv,?_⟩);rw[enter_at #[.string T] Tryz.func15 rfl];simp only[List.map_toArray,List.map_cons,List.map_nil,Act.eval];exact rfl
     ·rw[hb];rfl
     ·rw[hb];rfl
     case next4=>
      intro X hX;have c1:=λW=>run_string_add_sum (P:=Tryz.prog) W X ⟨#[115,101,116,116,108,101,10]⟩ (by rw[show(⟨#[115,101,116,116,108,101,10]⟩:ByteArray).size=7 from rfl];omega);refine⟨?law5,⟨?_,?_,?goes5⟩,?next5⟩
      case goes5=>
       intro S B W;have hH:AtRel W W:=atRel_refl W;rw[ju rfl rfl]
       walk_nrm
       refine Goes.step rfl λwz kv=>?_;replace hH:=hH.atr kv;clear kv;refine goes_oper_k rfl rfl hbk λK hK=>?_;go_simp;refine hK _ _ ⟨λe he=>?_,?_⟩
       ·have hm:=mem_listed he;simp[go_sem,execOp,resolve,invoke,builtin,Act.eval,juj]at hm
       clear hK K;try walk_nrm
       refine Goes.step rfl λwz kv=>?_;replace hH:=hH.atr kv;clear kv;refine goes_call rfl rfl hbk rfl Tryz.func13 (by kernel_rfl) rfl ⟨j6,?_⟩;refine Goes.stop (λwz kv=>⟨hH.atr kv,?_⟩);rw[enter_at #[.string (X++⟨#[115,101,116,116,108,101,10]⟩)] Tryz.func13 rfl];simp only[List.map_toArray,List.map_cons,List.map_nil,Act.eval];exact rfl
      ·rw[hb];rfl
      ·rw[hb];rfl
      case next5=>
       intro Y h6 h7 hY;have w6:IntKind.i64.wrap ((Y.size:Int)-6)=(Y.size:Int)-6:=IntWalk.i64_in _ (by omega);have evs:=λW=>jyd (P:=Tryz.prog) (t:=9) Tryz.underlying9 Y ((Y.size:Int)-6) W (by omega) (by omega);have tn:((Y.size:Int)-6).toNat=Y.size-6:=by omega
       have g0:(0:Int)<=(Y.size:Int)-6:=by omega
       have g1:(Y.size:Int)-6<=(Y.size:Int):=by omega
       intro Post S B W hPost;have hH:AtRel W W:=atRel_refl W;rw[ju rfl rfl]
       walk_nrm
       refine Goes.step rfl λwz kv=>?_;replace hH:=hH.atr kv;clear kv;refine goes_oper_k rfl rfl hbk λK hK=>?_;go_simp;refine hK _ _ ⟨λe he=>?_,?_⟩
       ·have hm:=mem_listed he;simp[go_sem,execOp,resolve,invoke,builtin,Act.eval]at hm
       clear hK K;try walk_nrm
       refine Goes.step rfl λwz kv=>?_;replace hH:=hH.atr kv;clear kv;rw[stepG_region_end];simp only[goes_go];refine⟨j6,?_⟩;refine Goes.step rfl λwz kv=>?_;replace hH:=hH.atr kv;clear kv;rw[stepG_seq];simp only[goes_go];refine⟨j6,?_⟩;refine Goes.step rfl λwz kv=>?_;replace hH:=hH.atr kv;clear kv;rw[stepG_region];simp only[goes_go,List.size_toArray,List.length_cons,List.length_nil,Nat.reduceAdd,Nat.zero_add,List.range,List.range.loop];refine⟨j6,?_⟩;refine Goes.step rfl λwz kv=>?_;replace hH:=hH.atr kv;clear kv;refine goes_oper_k rfl rfl hbk λK hK=>?_;go_simp;refine hK _ _ ⟨λe he=>?_,?_⟩
       ·have hm:=mem_listed he;simp[go_sem,execOp,resolve,invoke,builtin,Act.eval]at hm
       clear hK K;try walk_nrm
       refine Goes.step rfl λwz kv=>?_;replace hH:=hH.atr kv;clear kv;refine goes_oper_k rfl rfl hbk λK hK=>?_;go_simp;refine hK _ _ ⟨λe he=>?_,?_⟩
       ·have hm:=mem_listed he;simp[go_sem,execOp,resolve,invoke,builtin,Act.eval,Builtin.len_]at hm
       clear hK K;try walk_nrm
       refine Goes.step rfl λwz kv=>?_;replace hH:=hH.atr kv;clear kv;refine goes_oper_k rfl rfl hbk λK hK=>?_;go_simp;refine hK _ _ ⟨λe he=>?_,?_⟩
       ·have hm:=mem_listed he;simp[go_sem,execOp,resolve,invoke,builtin,Act.eval]at hm
       clear hK K;try walk_nrm
       refine Goes.step rfl λwz kv=>?_;replace hH:=hH.atr kv;clear kv;refine goes_oper_k rfl rfl hbk λK hK=>?_;go_simp;refine hK _ _ ⟨λe he=>?_,?_⟩
       ·have hm:=mem_listed he;simp[go_sem,execOp,resolve,invoke,builtin,Act.eval]at hm
       clear hK K;try walk_nrm
       refine Goes.step rfl λwz kv=>?_;replace hH:=hH.atr kv;clear kv;refine goes_oper_k rfl rfl hbk λK hK=>?_;go_simp;refine hK _ _ ⟨λe he=>?_,?_⟩
       ·have hm:=mem_listed he;simp[go_sem,execOp,resolve,invoke,builtin,Act.eval]at hm
       clear hK K;try walk_nrm
       refine Goes.step rfl λwz kv=>?_;replace hH:=hH.atr kv;clear kv;refine goes_oper_k rfl rfl hbk λK hK=>?_;go_simp;refine hK _ _ ⟨λe he=>?_,?_⟩
       ·have hm:=mem_listed he;simp[go_sem,execOp,resolve,invoke,builtin,Act.eval]at hm
       clear hK K;try walk_nrm
       refine Goes.step rfl λwz kv=>?_;replace hH:=hH.atr kv;clear kv;refine goes_oper_k rfl rfl hbk λK hK=>?_;go_simp;refine hK _ _ ⟨λe he=>?_,?_⟩
       ·have hm:=mem_listed he;simp[go_sem,execOp,resolve,invoke,builtin,Act.eval,Builtin.len_]at hm
       clear hK K;try walk_nrm
       refine Goes.step rfl λwz kv=>?_;replace hH:=hH.atr kv;clear kv;refine goes_oper_k rfl rfl hbk λK hK=>?_;go_simp;refine hK _ _ ⟨λe he=>?_,?_⟩
       ·have hm:=mem_listed he;simp[go_sem,execOp,resolve,invoke,builtin,Act.eval]at hm
       clear hK K;try walk_nrm
       refine Goes.step rfl λwz kv=>?_;replace hH:=hH.atr kv;clear kv;refine goes_oper_k rfl rfl hbk λK hK=>?_;go_simp;refine hK _ _ ⟨λe he=>?_,?_⟩
       ·have hm:=mem_listed he;simp[go_sem,execOp,resolve,invoke,builtin,Act.eval,juj,evs]at hm
       clear hK K;try walk_nrm
       refine Goes.step rfl λwz kv=>?_;replace hH:=hH.atr kv;clear kv;refine goes_oper_k rfl rfl hbk λK hK=>?_;go_simp;refine hK _ _ ⟨λe he=>?_,?_⟩
       ·have hm:=mem_listed he;simp[go_sem,execOp,resolve,invoke,builtin,Act.eval]at hm
       clear hK K;try walk_nrm
       refine Goes.step rfl λwz kv=>?_;replace hH:=hH.atr kv;clear kv;refine goes_oper_k rfl rfl hbk λK hK=>?_;go_simp;refine hK _ _ ⟨λe he=>?_,?_⟩
       ·have hm:=mem_listed he;simp[go_sem,execOp,resolve,invoke,builtin,Act.eval]at hm
       clear hK K;try walk_nrm
       refine Goes.step rfl λwz kv=>?_;replace hH:=hH.atr kv;clear kv;refine goes_oper_k rfl rfl hbk λK hK=>?_;go_simp;refine hK _ _ ⟨λe he=>?_,?_⟩
       ·have hm:=mem_listed he;simp[go_sem,execOp,resolve,invoke,builtin,Act.eval]at hm
       clear hK K;try walk_nrm
       refine Goes.step rfl λwz kv=>?_;replace hH:=hH.atr kv;clear kv;rw[stepG_region_end];simp only[goes_go];refine⟨j6,?_⟩;refine Goes.step rfl λwz kv=>?_;replace hH:=hH.atr kv;clear kv;rw[stepG_ret'];simp only[goes_go];refine⟨j6,?_⟩;refine Goes.stop (λwz kv=>⟨rfl,.bool true,#[],?_,λe he=>by simp at he,hPost _ (hH.atr kv)⟩);subst hb;simp[G,stepG,unwind,Frame.at,Tryz.f4,results,Tryz.results4,go_sem,Sem.runT,seen,doReturn,GStep.after];try omega
theorem j6p (a:Option Addr)(n cap:Nat)(hn:(n:Int)>1048576):ToEnd (G (Frame.enter Tryz.prog 4 #[.slice a n cap] .normal) []):=by
 have e0:=j18 (P:=Tryz.prog) (args:=#[.slice a n cap]) (kind:=.normal) (T:=#[.slice a n cap,undef,undef,undef,undef,undef,undef,undef,undef,undef,undef,undef,undef,undef,undef,undef,undef,undef,undef,undef,undef,undef,undef,undef,undef,undef,undef,undef,undef,undef,undef,undef,undef,undef,undef,undef,undef,undef,undef,undef,undef,undef,undef]) Tryz.func4 rfl (by kernel_rfl);obtain⟨b,hb⟩:∃b:Frame,b=({ fn:=4,tmps:=#[],todo:=[],defers:=[],mode:=.run,kind:=.normal,roundOf:=none }:Frame):=⟨_,rfl⟩;rw[<- hb]at e0;rw[e0];have hbk:b.kind≠.early:=by rw[hb];simp
 intro Post S B W hPost;have hH:AtRel W W:=atRel_refl W;try simp only[Tryz.f4,Option.getD_some]
 refine Goes.step rfl λwz kv=>?_;replace hH:=hH.atr kv;clear kv;rw[stepG_seq];simp only[goes_go];refine⟨j6,?_⟩;refine Goes.step rfl λwz kv=>?_;replace hH:=hH.atr kv;clear kv;rw[stepG_region];simp only[goes_go,List.size_toArray,List.length_cons,List.length_nil,Nat.reduceAdd,Nat.zero_add,List.range,List.range.loop];refine⟨j6,?_⟩;refine Goes.step rfl λwz kv=>?_;replace hH:=hH.atr kv;clear kv;refine goes_oper_k rfl rfl hbk λK hK=>?_;go_simp;refine hK _ _ ⟨λe he=>?_,?_⟩
 ·have hm:=mem_listed he;simp[go_sem,execOp,resolve,invoke,builtin,Act.eval]at hm
 clear hK K;try walk_nrm
 refine Goes.step rfl λwz kv=>?_;replace hH:=hH.atr kv;clear kv;rw[stepG_region_end];simp only[goes_go];refine⟨j6,?_⟩;refine Goes.step rfl λwz kv=>?_;replace hH:=hH.atr kv;clear kv;rw[stepG_seq];simp only[goes_go];refine⟨j6,?_⟩;refine Goes.step rfl λwz kv=>?_;replace hH:=hH.atr kv;clear kv;rw[stepG_seq];simp only[goes_go];refine⟨j6,?_⟩;refine Goes.step rfl λwz kv=>?_;replace hH:=hH.atr kv;clear kv;rw[stepG_region];simp only[goes_go,List.size_toArray,List.length_cons,List.length_nil,Nat.reduceAdd,Nat.zero_add,List.range,List.range.loop];refine⟨j6,?_⟩;refine Goes.step rfl λwz kv=>?_;replace hH:=hH.atr kv;clear kv;refine goes_oper_k rfl rfl hbk λK hK=>?_;go_simp;refine hK _ _ ⟨λe he=>?_,?_⟩
 ·have hm:=mem_listed he;simp[go_sem,execOp,resolve,invoke,builtin,Act.eval]at hm
 clear hK K;try walk_nrm
 refine Goes.step rfl λwz kv=>?_;replace hH:=hH.atr kv;clear kv;refine goes_oper_k rfl rfl hbk λK hK=>?_;go_simp;refine hK _ _ ⟨λe he=>?_,?_⟩
 ·have hm:=mem_listed he;simp[go_sem,execOp,resolve,invoke,builtin,Act.eval,Builtin.len_]at hm
 clear hK K;try walk_nrm
 refine Goes.step rfl λwz kv=>?_;replace hH:=hH.atr kv;clear kv;refine goes_oper_k rfl rfl hbk λK hK=>?_;go_simp;refine hK _ _ ⟨λe he=>?_,?_⟩
 ·have hm:=mem_listed he;simp[go_sem,execOp,resolve,invoke,builtin,Act.eval]at hm
 clear hK K;try walk_nrm
 refine Goes.step rfl λwz kv=>?_;replace hH:=hH.atr kv;clear kv;rw[stepG_region_end];simp only[goes_go];refine⟨j6,?_⟩;refine Goes.step rfl λwz kv=>?_;replace hH:=hH.atr kv;clear kv;rw[stepG_cond (t:=true) (by simp[Act.eval])];simp only[goes_go];refine⟨j6,?_⟩;simp only[if_true];refine Goes.step rfl λwz kv=>?_;replace hH:=hH.atr kv;clear kv;rw[stepG_seq];simp only[goes_go];refine⟨j6,?_⟩;refine Goes.step rfl λwz kv=>?_;replace hH:=hH.atr kv;clear kv;rw[stepG_region];simp only[goes_go,List.size_toArray,List.length_cons,List.length_nil,Nat.reduceAdd,Nat.zero_add,List.range,List.range.loop];refine⟨j6,?_⟩;refine Goes.step rfl λwz kv=>?_;replace hH:=hH.atr kv;clear kv;refine goes_oper_k rfl rfl hbk λK hK=>?_;go_simp;refine hK _ _ ⟨λe he=>?_,?_⟩
 ·have hm:=mem_listed he;simp[go_sem,execOp,resolve,invoke,builtin,Act.eval]at hm
 clear hK K;try walk_nrm
 refine Goes.step rfl λwz kv=>?_;replace hH:=hH.atr kv;clear kv;rw[stepG_region_end];simp only[goes_go];refine⟨j6,?_⟩;refine Goes.step rfl λwz kv=>?_;replace hH:=hH.atr kv;clear kv;rw[stepG_ret'];simp only[goes_go];refine⟨j6,?_⟩;refine Goes.stop (λwz kv=>⟨rfl,.bool true,#[],?_,λe he=>by simp at he,hPost _ (hH.atr kv)⟩);subst hb;simp[G,stepG,unwind,Frame.at,Tryz.f4,results,Tryz.results4,go_sem,Sem.runT,seen,doReturn,GStep.after];try omega
end Go.Proofs.YtbcegllhelfijaaGreatDoor
