/-
  A part of the proof.
-/
import Derived.Test.YtbcegllhelfijaaGreatDoorY29
set_option linter.all false
set_option maxRecDepth 100000
set_option maxHeartbeats 8000000
namespace Go.Proofs.YtbcegllhelfijaaGreatDoor
open Go.Proofs.Mn
open Go Go.Conc Go.RowKit Go.Conc.Lib Go.ConcR.Gen Go.ConcN.Gen
theorem j94 (a:Option Addr)(n cap:Nat)(hn:¬((n:Int)>1048576)) :
  ∃law1:Frame,ToCall (G (Frame.enter Tryz.prog 3 #[.slice a n cap] .normal) []) 12 #[.slice a n cap] law1/\∀T:ByteArray,T.size<=10000->∃law2:Frame,ToCall (G (law1.finish (.string T)) []) 13 #[.string T] law2/\∀V:ByteArray,∃law3:Frame,ToCall (G (law2.finish (.string V)) []) 14 #[.string T] law3/\((T.size:Int)>400->ToEnd (G (law3.finish (.string V)) []))/\(¬((T.size:Int)>400)->∃law4:Frame,ToCall (G (law3.finish (.string V)) []) 15 #[.string T] law4/\∀X:ByteArray,∃law5:Frame,ToCall (G (law4.finish (.string X)) []) 13 #[.string X] law5/\ToEnd (G (law5.finish (.string V)) [])):=by
 have e0:=j18 (P:=Tryz.prog) (args:=#[.slice a n cap]) (kind:=.normal) (T:=#[.slice a n cap,undef,undef,undef,undef,undef,undef,undef,undef,undef,undef,undef,undef,undef,undef,undef,undef,undef,undef,undef,undef,undef,undef,undef,undef,undef,undef,undef,undef,undef,undef]) Tryz.func3 rfl (by kernel_rfl);obtain⟨b,hb⟩:∃b:Frame,b=({ fn:=3,tmps:=#[],todo:=[],defers:=[],mode:=.run,kind:=.normal,roundOf:=none }:Frame):=⟨_,rfl⟩;rw[<- hb]at e0;rw[e0];have hbk:b.kind≠.early:=by rw[hb];simp
 refine⟨?law1,⟨?_,?_,?goes1⟩,?next1⟩
 case goes1=>
  intro S B W;have hH:AtRel W W:=atRel_refl W;try simp only[Tryz.f3,Option.getD_some]
  refine Goes.step rfl λwz kv=>?_;replace hH:=hH.atr kv;clear kv;rw[stepG_seq];simp only[goes_go];refine⟨j6,?_⟩;refine Goes.step rfl λwz kv=>?_;replace hH:=hH.atr kv;clear kv;rw[stepG_region];simp only[goes_go,List.size_toArray,List.length_cons,List.length_nil,Nat.reduceAdd,Nat.zero_add,List.range,List.range.loop];refine⟨j6,?_⟩;refine Goes.step rfl λwz kv=>?_;replace hH:=hH.atr kv;clear kv;refine goes_oper_k rfl rfl hbk λK hK=>?_;go_simp;refine hK _ _ ⟨λe he=>?_,?_⟩
  ·have hm:=mem_listed he;simp[go_sem,execOp,resolve,invoke,builtin,Act.eval]at hm
  clear hK K;try walk_nrm
  refine Goes.step rfl λwz kv=>?_;replace hH:=hH.atr kv;clear kv;rw[stepG_region_end];simp only[goes_go];refine⟨j6,?_⟩;refine Goes.step rfl λwz kv=>?_;replace hH:=hH.atr kv;clear kv;rw[stepG_seq];simp only[goes_go];refine⟨j6,?_⟩;refine Goes.step rfl λwz kv=>?_;replace hH:=hH.atr kv;clear kv;rw[stepG_seq];simp only[goes_go];refine⟨j6,?_⟩;refine Goes.step rfl λwz kv=>?_;replace hH:=hH.atr kv;clear kv;rw[stepG_region];simp only[goes_go,List.size_toArray,List.length_cons,List.length_nil,Nat.reduceAdd,Nat.zero_add,List.range,List.range.loop];refine⟨j6,?_⟩;refine Goes.step rfl λwz kv=>?_;replace hH:=hH.atr kv;clear kv;refine goes_oper_k rfl rfl hbk λK hK=>?_;go_simp;refine hK _ _ ⟨λe he=>?_,?_⟩
  ·have hm:=mem_listed he;simp[go_sem,execOp,resolve,invoke,builtin,Act.eval]at hm
  clear hK K;try walk_nrm
  refine Goes.step rfl λwz kv=>?_;replace hH:=hH.atr kv;clear kv;refine goes_oper_k rfl rfl hbk λK hK=>?_;go_simp;refine hK _ _ ⟨λe he=>?_,?_⟩
  ·have hm:=mem_listed he;simp[go_sem,execOp,resolve,invoke,builtin,Act.eval,Builtin.len_]at hm
  clear hK K;try walk_nrm
  refine Goes.step rfl λwz kv=>?_;replace hH:=hH.atr kv;clear kv;refine goes_oper_k rfl rfl hbk λK hK=>?_;go_simp;refine hK _ _ ⟨λe he=>?_,?_⟩
  ·have hm:=mem_listed he;simp[go_sem,execOp,resolve,invoke,builtin,Act.eval]at hm
  clear hK K;try walk_nrm
  refine Goes.step rfl λwz kv=>?_;replace hH:=hH.atr kv;clear kv;rw[stepG_region_end];simp only[goes_go];refine⟨j6,?_⟩;refine Goes.step rfl λwz kv=>?_;replace hH:=hH.atr kv;clear kv;rw[stepG_cond (t:=false) (by simp[Act.eval])];simp only[goes_go];refine⟨j6,?_⟩;simp only[Bool.false_eq_true,if_false];refine Goes.step rfl λwz kv=>?_;replace hH:=hH.atr kv;clear kv;rw[stepG_skip];simp only[goes_go];refine⟨j6,?_⟩;refine Goes.step rfl λwz kv=>?_;replace hH:=hH.atr kv;clear kv;rw[stepG_seq];simp only[goes_go];refine⟨j6,?_⟩;refine Goes.step rfl λwz kv=>?_;replace hH:=hH.atr kv;clear kv;rw[stepG_region];simp only[goes_go,List.size_toArray,List.length_cons,List.length_nil,Nat.reduceAdd,Nat.zero_add,List.range,List.range.loop];refine⟨j6,?_⟩;refine Goes.step rfl λwz kv=>?_;replace hH:=hH.atr kv;clear kv;refine goes_oper_k rfl rfl hbk λK hK=>?_;go_simp;refine hK _ _ ⟨λe he=>?_,?_⟩
  ·have hm:=mem_listed he;simp[go_sem,execOp,resolve,invoke,builtin,Act.eval]at hm
  clear hK K;try walk_nrm
  refine Goes.step rfl λwz kv=>?_;replace hH:=hH.atr kv;clear kv;refine goes_call rfl rfl hbk rfl Tryz.func12 (by kernel_rfl) rfl ⟨j6,?_⟩;refine Goes.stop (λwz kv=>⟨hH.atr kv,?_⟩);rw[enter_at #[.slice a n cap] Tryz.func12 rfl];simp only[List.map_toArray,List.map_cons,List.map_nil,Act.eval];exact rfl
 ·rw[hb];rfl
 ·rw[hb];rfl
 case next1=>
  intro T hT;refine⟨?law2,⟨?_,?_,?goes2⟩,?next2⟩
  case goes2=>
   intro S B W;have hH:AtRel W W:=atRel_refl W;rw[ju rfl rfl]
   walk_nrm
   refine Goes.step rfl λwz kv=>?_;replace hH:=hH.atr kv;clear kv;refine goes_oper_k rfl rfl hbk λK hK=>?_;go_simp;refine hK _ _ ⟨λe he=>?_,?_⟩
   ·have hm:=mem_listed he;simp[go_sem,execOp,resolve,invoke,builtin,Act.eval]at hm
   clear hK K;try walk_nrm
   refine Goes.step rfl λwz kv=>?_;replace hH:=hH.atr kv;clear kv;rw[stepG_region_end];simp only[goes_go];refine⟨j6,?_⟩;refine Goes.step rfl λwz kv=>?_;replace hH:=hH.atr kv;clear kv;rw[stepG_seq];simp only[goes_go];refine⟨j6,?_⟩;refine Goes.step rfl λwz kv=>?_;replace hH:=hH.atr kv;clear kv;rw[stepG_region];simp only[goes_go,List.size_toArray,List.length_cons,List.length_nil,Nat.reduceAdd,Nat.zero_add,List.range,List.range.loop];refine⟨j6,?_⟩;refine Goes.step rfl λwz kv=>?_;replace hH:=hH.atr kv;clear kv;refine goes_oper_k rfl rfl hbk λK hK=>?_;go_simp;refine hK _ _ ⟨λe he=>?_,?_⟩
   ·have hm:=mem_listed he;simp[go_sem,execOp,resolve,invoke,builtin,Act.eval]at hm
   clear hK K;try walk_nrm
   refine Goes.step rfl λwz kv=>?_;replace hH:=hH.atr kv;clear kv;refine goes_call rfl rfl hbk rfl Tryz.func13 (by kernel_rfl) rfl ⟨j6,?_⟩;refine Goes.stop (λwz kv=>⟨hH.atr kv,?_⟩);rw[enter_at #[.string T] Tryz.func13 rfl];simp only[List.map_toArray,List.map_cons,List.map_nil,Act.eval];exact rfl
  ·rw[hb];rfl
  ·rw[hb];rfl
  case next2=>
   intro V;refine⟨?law3,⟨?_,?_,?goes3⟩,?next3⟩
   case goes3=>
    intro S B W;have hH:AtRel W W:=atRel_refl W;rw[ju rfl rfl]
    walk_nrm
    refine Goes.step rfl λwz kv=>?_;replace hH:=hH.atr kv;clear kv;refine goes_oper_k rfl rfl hbk λK hK=>?_;go_simp;refine hK _ _ ⟨λe he=>?_,?_⟩
    ·have hm:=mem_listed he;simp[go_sem,execOp,resolve,invoke,builtin,Act.eval]at hm
    clear hK K;try walk_nrm
    refine Goes.step rfl λwz kv=>?_;replace hH:=hH.atr kv;clear kv;rw[stepG_region_end];simp only[goes_go];refine⟨j6,?_⟩;refine Goes.step rfl λwz kv=>?_;replace hH:=hH.atr kv;clear kv;rw[stepG_seq];simp only[goes_go];refine⟨j6,?_⟩;refine Goes.step rfl λwz kv=>?_;replace hH:=hH.atr kv;clear kv;rw[stepG_region];simp only[goes_go,List.size_toArray,List.length_cons,List.length_nil,Nat.reduceAdd,Nat.zero_add,List.range,List.range.loop];refine⟨j6,?_⟩;refine Goes.step rfl λwz kv=>?_;replace hH:=hH.atr kv;clear kv;refine goes_oper_k rfl rfl hbk λK hK=>?_;go_simp;refine hK _ _ ⟨λe he=>?_,?_⟩
    ·have hm:=mem_listed he;simp[go_sem,execOp,resolve,invoke,builtin,Act.eval]at hm
    clear hK K;try walk_nrm
    refine Goes.step rfl λwz kv=>?_;replace hH:=hH.atr kv;clear kv;refine goes_call rfl rfl hbk rfl Tryz.func14 (by kernel_rfl) rfl ⟨j6,?_⟩;refine Goes.stop (λwz kv=>⟨hH.atr kv,?_⟩);rw[enter_at #[.string T] Tryz.func14 rfl];simp only[List.map_toArray,List.map_cons,List.map_nil,Act.eval];exact rfl
   ·rw[hb];rfl
   ·rw[hb];rfl
   case next3=>
    refine⟨?_,?_⟩
    ·intro hL;intro Post S B W hPost;have hH:AtRel W W:=atRel_refl W;rw[ju rfl rfl]
     walk_nrm
     refine Goes.step rfl λwz kv=>?_;replace hH:=hH.atr kv;clear kv;refine goes_oper_k rfl rfl hbk λK hK=>?_;go_simp;refine hK _ _ ⟨λe he=>?_,?_⟩
     ·have hm:=mem_listed he;simp[go_sem,execOp,resolve,invoke,builtin,Act.eval]at hm
     clear hK K;try walk_nrm
     refine Goes.step rfl λwz kv=>?_;replace hH:=hH.atr kv;clear kv;rw[stepG_region_end];simp only[goes_go];refine⟨j6,?_⟩;refine Goes.step rfl λwz kv=>?_;replace hH:=hH.atr kv;clear kv;rw[stepG_seq];simp only[goes_go];refine⟨j6,?_⟩;refine Goes.step rfl λwz kv=>?_;replace hH:=hH.atr kv;clear kv;rw[stepG_seq];simp only[goes_go];refine⟨j6,?_⟩;refine Goes.step rfl λwz kv=>?_;replace hH:=hH.atr kv;clear kv;rw[stepG_region];simp only[goes_go,List.size_toArray,List.length_cons,List.length_nil,Nat.reduceAdd,Nat.zero_add,List.range,List.range.loop];refine⟨j6,?_⟩;refine Goes.step rfl λwz kv=>?_;replace hH:=hH.atr kv;clear kv;refine goes_oper_k rfl rfl hbk λK hK=>?_;go_simp;refine hK _ _ ⟨λe he=>?_,?_⟩
     ·have hm:=mem_listed he;simp[go_sem,execOp,resolve,invoke,builtin,Act.eval]at hm
     clear hK K;try walk_nrm
     refine Goes.step rfl λwz kv=>?_;replace hH:=hH.atr kv;clear kv;refine goes_oper_k rfl rfl hbk λK hK=>?_;go_simp;refine hK _ _ ⟨λe he=>?_,?_⟩
     ·have hm:=mem_listed he;simp[go_sem,execOp,resolve,invoke,builtin,Act.eval]at hm
     clear hK K;try walk_nrm
     refine Goes.step rfl λwz kv=>?_;replace hH:=hH.atr kv;clear kv;refine goes_oper_k rfl rfl hbk λK hK=>?_;go_simp;refine hK _ _ ⟨λe he=>?_,?_⟩
     ·have hm:=mem_listed he;simp[go_sem,execOp,resolve,invoke,builtin,Act.eval]at hm
     clear hK K;try walk_nrm
     refine Goes.step rfl λwz kv=>?_;replace hH:=hH.atr kv;clear kv;refine goes_oper_k rfl rfl hbk λK hK=>?_;go_simp;refine hK _ _ ⟨λe he=>?_,?_⟩
     ·have hm:=mem_listed he;simp[go_sem,execOp,resolve,invoke,builtin,Act.eval]at hm
     clear hK K;try walk_nrm
     refine Goes.step rfl λwz kv=>?_;replace hH:=hH.atr kv;clear kv;refine goes_oper_k rfl rfl hbk λK hK=>?_;go_simp;refine hK _ _ ⟨λe he=>?_,?_⟩
     ·have hm:=mem_listed he;simp[go_sem,execOp,resolve,invoke,builtin,Act.eval]at hm
     clear hK K;try walk_nrm
     refine Goes.step rfl λwz kv=>?_;replace hH:=hH.atr kv;clear kv;refine goes_oper_k rfl rfl hbk λK hK=>?_;go_simp;refine hK _ _ ⟨λe he=>?_,?_⟩
     ·have hm:=mem_listed he;simp[go_sem,execOp,resolve,invoke,builtin,Act.eval,Builtin.len_]at hm
     clear hK K;try walk_nrm
     refine Goes.step rfl λwz kv=>?_;replace hH:=hH.atr kv;clear kv;refine goes_oper_k rfl rfl hbk λK hK=>?_;go_simp;refine hK _ _ ⟨λe he=>?_,?_⟩
     ·have hm:=mem_listed he;simp[go_sem,execOp,resolve,invoke,builtin,Act.eval]at hm
     clear hK K;try walk_nrm
     refine Goes.step rfl λwz kv=>?_;replace hH:=hH.atr kv;clear kv;refine goes_oper_k rfl rfl hbk λK hK=>?_;go_simp;refine hK _ _ ⟨λe he=>?_,?_⟩
     ·have hm:=mem_listed he;simp[go_sem,execOp,resolve,invoke,builtin,Act.eval]at hm
     clear hK K;try walk_nrm
     refine Goes.step rfl λwz kv=>?_;replace hH:=hH.atr kv;clear kv;rw[stepG_region_end];simp only[goes_go];refine⟨j6,?_⟩;refine Goes.step rfl λwz kv=>?_;replace hH:=hH.atr kv;clear kv;rw[stepG_cond (t:=true) (by simp[Act.eval])];simp only[goes_go];refine⟨j6,?_⟩;simp only[if_true];refine Goes.step rfl λwz kv=>?_;replace hH:=hH.atr kv;clear kv;rw[stepG_seq];simp only[goes_go];refine⟨j6,?_⟩;refine Goes.step rfl λwz kv=>?_;replace hH:=hH.atr kv;clear kv;rw[stepG_region];simp only[goes_go,List.size_toArray,List.length_cons,List.length_nil,Nat.reduceAdd,Nat.zero_add,List.range,List.range.loop];refine⟨j6,?_⟩;refine Goes.step rfl λwz kv=>?_;replace hH:=hH.atr kv;clear kv;refine goes_oper_k rfl rfl hbk λK hK=>?_;go_simp;refine hK _ _ ⟨λe he=>?_,?_⟩
     ·have hm:=mem_listed he;simp[go_sem,execOp,resolve,invoke,builtin,Act.eval]at hm
     clear hK K;try walk_nrm
     refine Goes.step rfl λwz kv=>?_;replace hH:=hH.atr kv;clear kv;refine goes_oper_k rfl rfl hbk λK hK=>?_;go_simp;refine hK _ _ ⟨λe he=>?_,?_⟩
     ·have hm:=mem_listed he;simp[go_sem,execOp,resolve,invoke,builtin,Act.eval]at hm
     clear hK K;try walk_nrm
     refine Goes.step rfl λwz kv=>?_;replace hH:=hH.atr kv;clear kv;refine goes_oper_k rfl rfl hbk λK hK=>?_;go_simp;refine hK _ _ ⟨λe he=>?_,?_⟩
     ·have hm:=mem_listed he;simp[go_sem,execOp,resolve,invoke,builtin,Act.eval]at hm
     clear hK K;try walk_nrm
     refine Goes.step rfl λwz kv=>?_;replace hH:=hH.atr kv;clear kv;refine goes_oper_k rfl rfl hbk λK hK=>?_;go_simp;refine hK _ _ ⟨λe he=>?_,?_⟩
     ·have hm:=mem_listed he;simp[go_sem,execOp,resolve,invoke,builtin,Act.eval]at hm
     clear hK K;try walk_nrm
     refine Goes.step rfl λwz kv=>?_;replace hH:=hH.atr kv;clear kv;rw[stepG_region_end];simp only[goes_go];refine⟨j6,?_⟩;refine Goes.step rfl λwz kv=>?_;replace hH:=hH.atr kv;clear kv;rw[stepG_ret'];simp only[goes_go];refine⟨j6,?_⟩;refine Goes.stop (λwz kv=>⟨rfl,.bool true,#[],?_,λe he=>by simp at he,hPost _ (hH.atr kv)⟩);subst hb;simp[G,stepG,unwind,Frame.at,Tryz.f3,results,Tryz.results3,go_sem,Sem.runT,seen,doReturn,GStep.after];try omega
    ·intro hL;refine⟨?law4,⟨?_,?_,?goes4⟩,?next4⟩
     case goes4=>
      intro S B W;have hH:AtRel W W:=atRel_refl W;rw[ju rfl rfl]
      walk_nrm
      refine Goes.step rfl λwz kv=>?_;replace hH:=hH.atr kv;clear kv;refine goes_oper_k rfl rfl hbk λK hK=>?_;go_simp;refine hK _ _ ⟨λe he=>?_,?_⟩
      ·have hm:=mem_listed he;simp[go_sem,execOp,resolve,invoke,builtin,Act.eval]at hm
      clear hK K;try walk_nrm
      refine Goes.step rfl λwz kv=>?_;replace hH:=hH.atr kv;clear kv;rw[stepG_region_end];simp only[goes_go];refine⟨j6,?_⟩;refine Goes.step rfl λwz kv=>?_;replace hH:=hH.atr kv;clear kv;rw[stepG_seq];simp only[goes_go];refine⟨j6,?_⟩;refine Goes.step rfl λwz kv=>?_;replace hH:=hH.atr kv;clear kv;rw[stepG_seq];simp only[goes_go];refine⟨j6,?_⟩;refine Goes.step rfl λwz kv=>?_;replace hH:=hH.atr kv;clear kv;rw[stepG_region];simp only[goes_go,List.size_toArray,List.length_cons,List.length_nil,Nat.reduceAdd,Nat.zero_add,List.range,List.range.loop];refine⟨j6,?_⟩;refine Goes.step rfl λwz kv=>?_;replace hH:=hH.atr kv;clear kv;refine goes_oper_k rfl rfl hbk λK hK=>?_;go_simp;refine hK _ _ ⟨λe he=>?_,?_⟩
      ·have hm:=mem_listed he;simp[go_sem,execOp,resolve,invoke,builtin,Act.eval]at hm
      clear hK K;try walk_nrm
      refine Goes.step rfl λwz kv=>?_;replace hH:=hH.atr kv;clear kv;refine goes_oper_k rfl rfl hbk λK hK=>?_;go_simp;refine hK _ _ ⟨λe he=>?_,?_⟩
      ·have hm:=mem_listed he;simp[go_sem,execOp,resolve,invoke,builtin,Act.eval]at hm
      clear hK K;try walk_nrm
      refine Goes.step rfl λwz kv=>?_;replace hH:=hH.atr kv;clear kv;refine goes_oper_k rfl rfl hbk λK hK=>?_;go_simp;refine hK _ _ ⟨λe he=>?_,?_⟩
      ·have hm:=mem_listed he;simp[go_sem,execOp,resolve,invoke,builtin,Act.eval]at hm
      clear hK K;try walk_nrm
      refine Goes.step rfl λwz kv=>?_;replace hH:=hH.atr kv;clear kv;refine goes_oper_k rfl rfl hbk λK hK=>?_;go_simp;refine hK _ _ ⟨λe he=>?_,?_⟩
      ·have hm:=mem_listed he;simp[go_sem,execOp,resolve,invoke,builtin,Act.eval]at hm
      clear hK K;try walk_nrm
      refine Goes.step rfl λwz kv=>?_;replace hH:=hH.atr kv;clear kv;refine goes_oper_k rfl rfl hbk λK hK=>?_;go_simp;refine hK _ _ ⟨λe he=>?_,?_⟩
      ·have hm:=mem_listed he;simp[go_sem,execOp,resolve,invoke,builtin,Act.eval]at hm
      clear hK K;try walk_nrm
      refine Goes.step rfl λwz kv=>?_;replace hH:=hH.atr kv;clear kv;refine goes_oper_k rfl rfl hbk λK hK=>?_;go_simp;refine hK _ _ ⟨λe he=>?_,?_⟩
      ·have hm:=mem_listed he;simp[go_sem,execOp,resolve,invoke,builtin,Act.eval,Builtin.len_]at hm
      clear hK K;try walk_nrm
      refine Goes.step rfl λwz kv=>?_;replace hH:=hH.atr kv;clear kv;refine goes_oper_k rfl rfl hbk λK hK=>?_;go_simp;refine hK _ _ ⟨λe he=>?_,?_⟩
      ·have hm:=mem_listed he;simp[go_sem,execOp,resolve,invoke,builtin,Act.eval]at hm
      clear hK K;try walk_nrm
      refine Goes.step rfl λwz kv=>?_;replace hH:=hH.atr kv;clear kv;refine goes_oper_k rfl rfl hbk λK hK=>?_;go_simp;refine hK _ _ ⟨λe he=>?_,?_⟩
      ·have hm:=mem_listed he;simp[go_sem,execOp,resolve,invoke,builtin,Act.eval]at hm
      clear hK K;try walk_nrm
      refine Goes.step rfl λwz kv=>?_;replace hH:=hH.atr kv;clear kv;rw[stepG_region_end];simp only[goes_go];refine⟨j6,?_⟩;refine Goes.step rfl λwz kv=>?_;replace hH:=hH.atr kv;clear kv;rw[stepG_cond (t:=false) (by simp[Act.eval])];simp only[goes_go];refine⟨j6,?_⟩;simp only[Bool.false_eq_true,if_false];refine Goes.step rfl λwz kv=>?_;replace hH:=hH.atr kv;clear kv;rw[stepG_skip];simp only[goes_go];refine⟨j6,?_⟩;refine Goes.step rfl λwz kv=>?_;replace hH:=hH.atr kv;clear kv;rw[stepG_seq];simp only[goes_go];refine⟨j6,?_⟩;refine Goes.step rfl λwz kv=>?_;replace hH:=hH.atr kv;clear kv;rw[stepG_region];simp only[goes_go,List.size_toArray,List.length_cons,List.length_nil,Nat.reduceAdd,Nat.zero_add,List.range,List.range.loop];refine⟨j6,?_⟩;refine Goes.step rfl λwz kv=>?_;replace hH:=hH.atr kv;clear kv;refine goes_oper_k rfl rfl hbk λK hK=>?_;go_simp;refine hK _ _ ⟨λe he=>?_,?_⟩
      ·have hm:=mem_listed he;simp[go_sem,execOp,resolve,invoke,builtin,Act.eval]at hm
      clear hK K;try walk_nrm
      refine Goes.step rfl λwz kv=>?_;replace hH:=hH.atr kv;clear kv;refine goes_call rfl rfl hbk rfl Tryz.func15 (by kernel_rfl) rfl ⟨j6,?_⟩;refine Goes.stop (λwz kv=>⟨hH.atr kv,?_⟩);rw[enter_at #[.string T] Tryz.func15 rfl];simp only[List.map_toArray,List.map_cons,List.map_nil,Act.eval];exact rfl
     ·rw[hb];rfl
     ·rw[hb];rfl
     case next4=>
      intro X;refine⟨?law5,⟨?_,?_,?goes5⟩,?next5⟩
      case goes5=>
       intro S B W;have hH:AtRel W W:=atRel_refl W;rw[ju rfl rfl]
       walk_nrm
       refine Goes.step rfl λwz kv=>?_;replace hH:=hH.atr kv;clear kv;refine goes_call rfl rfl hbk rfl Tryz.func13 (by kernel_rfl) rfl ⟨j6,?_⟩;refine Goes.stop (λwz kv=>⟨hH.atr kv,?_⟩);rw[enter_at #[.string X] Tryz.func13 rfl];simp only[List.map_toArray,List.map_cons,List.map_nil,Act.eval];exact rfl
      ·rw[hb];rfl
      ·rw[hb];rfl
      case next5=>
       intro Post S B W hPost;have hH:AtRel W W:=atRel_refl W;rw[ju rfl rfl]
       walk_nrm
       refine Goes.step rfl λwz kv=>?_;replace hH:=hH.atr kv;clear kv;refine goes_oper_k rfl rfl hbk λK hK=>?_;go_simp;refine hK _ _ ⟨λe he=>?_,?_⟩
       ·have hm:=mem_listed he;simp[go_sem,execOp,resolve,invoke,builtin,Act.eval]at hm
       clear hK K;try walk_nrm
       refine Goes.step rfl λwz kv=>?_;replace hH:=hH.atr kv;clear kv;refine goes_oper_k rfl rfl hbk λK hK=>?_;go_simp;refine hK _ _ ⟨λe he=>?_,?_⟩
       ·have hm:=mem_listed he;simp[go_sem,execOp,resolve,invoke,builtin,Act.eval]at hm
       clear hK K;try walk_nrm
       refine Goes.step rfl λwz kv=>?_;replace hH:=hH.atr kv;clear kv;refine goes_oper_k rfl rfl hbk λK hK=>?_;go_simp;refine hK _ _ ⟨λe he=>?_,?_⟩
       ·have hm:=mem_listed he;simp[go_sem,execOp,resolve,invoke,builtin,Act.eval]at hm
       clear hK K;try walk_nrm
       refine Goes.step rfl λwz kv=>?_;replace hH:=hH.atr kv;clear kv;rw[stepG_region_end];simp only[goes_go];refine⟨j6,?_⟩;refine Goes.step rfl λwz kv=>?_;replace hH:=hH.atr kv;clear kv;rw[stepG_ret'];simp only[goes_go];refine⟨j6,?_⟩;refine Goes.stop (λwz kv=>⟨rfl,.bool true,#[],?_,λe he=>by simp at he,hPost _ (hH.atr kv)⟩);subst hb;simp[G,stepG,unwind,Frame.at,Tryz.f3,results,Tryz.results3,go_sem,Sem.runT,seen,doReturn,GStep.after];try omega
theorem j9l (a:Option Addr)(n cap:Nat)(hn:(n:Int)>1048576):ToEnd (G (Frame.enter Tryz.prog 3 #[.slice a n cap] .normal) []):=by
 have e0:=j18 (P:=Tryz.prog) (args:=#[.slice a n cap]) (kind:=.normal) (T:=#[.slice a n cap,undef,undef,undef,undef,undef,undef,undef,undef,undef,undef,undef,undef,undef,undef,undef,undef,undef,undef,undef,undef,undef,undef,undef,undef,undef,undef,undef,undef,undef,undef]) Tryz.func3 rfl (by kernel_rfl);obtain⟨b,hb⟩:∃b:Frame,b=({ fn:=3,tmps:=#[],todo:=[],defers:=[],mode:=.run,kind:=.normal,roundOf:=none }:Frame):=⟨_,rfl⟩;rw[<- hb]at e0;rw[e0];have hbk:b.kind≠.early:=by rw[hb];simp
 intro Post S B W hPost;have hH:AtRel W W:=atRel_refl W;try simp only[Tryz.f3,Option.getD_some]
 refine Goes.step rfl λwz kv=>?_;replace hH:=hH.atr kv;clear kv;rw[stepG_seq];simp only[goes_go];refine⟨j6,?_⟩;refine Goes.step rfl λwz kv=>?_;replace hH:=hH.atr kv;clear kv;rw[stepG_region];simp only[goes_go,List.size_toArray,List.length_cons,List.length_nil,Nat.reduceAdd,Nat.zero_add,List.range,List.range.loop];refine⟨j6,?_⟩;refine Goes.step rfl λwz kv=>?_;replace hH:=hH.atr kv;clear kv;refine goes_oper_k rfl rfl hbk λK hK=>?_;go_simp;refine hK _ _ ⟨λe he=>?_,?_⟩
 ·have hm:=mem_listed he;simp[go_sem,execOp,resolve,invoke,builtin,Act.eval]at hm
 clear hK K;try walk_nrm
 refine Goes.step rfl λwz kv=>?_;replace hH:=hH.atr kv;clear kv;rw[stepG_region_end];simp only[goes_go];refine⟨j6,?_⟩;refine Goes.step rfl λwz kv=>?_;replace hH:=hH.atr kv;clear kv;rw[stepG_seq];simp only[goes_go];refine⟨j6,?_⟩;refine Goes.step rfl λwz kv=>?_;replace hH:=hH.atr kv;clear kv;rw[stepG_seq];simp only[goes_go];refine⟨j6,?_⟩;refine Goes.step rfl λwz kv=>?_;replace hH:=hH.atr kv;clear kv;rw[stepG_region];simp only[goes_go,List.size_toArray,List.length_cons,List.length_nil,Nat.reduceAdd,Nat.zero_add,List.range,List.range.loop];refine⟨j6,?_⟩;refine Goes.step rfl λwz kv=>?_;replace hH:=hH.atr kv;clear kv;refine goes_oper_k rfl rfl hbk λK hK=>?_;go_simp;refine hK _ _ ⟨λe he=>?_,?_⟩
 ·have hm:=mem_listed he;simp[go_sem,execOp,resolve,invoke,builtin,Act.eval]at hm
 clear hK K;try walk_nrm
 refine Goes.step rfl λwz kv=>?_;replace hH:=hH.atr kv;clear kv;refine goes_oper_k rfl rfl hbk λK hK=>?_;go_simp;refine hK _ _ ⟨λe he=>?_,?_⟩
 ·have hm:=mem_listed he;simp[go_sem,execOp,resolve,invoke,builtin,Act.eval,Builtin.len_]at hm
 clear hK K;try walk_nrm
 refine Goes.step rfl λwz kv=>?_;replace hH:=hH.atr kv;clear kv;refine goes_oper_k rfl rfl hbk λK hK=>?_;go_simp;refine hK _ _ ⟨λe he=>?_,?_⟩
 ·have hm:=mem_listed he;simp[go_sem,execOp,resolve,invoke,builtin,Act.eval]at hm
 clear hK K;try walk_nrm
 refine Goes.step rfl λwz kv=>?_;replace hH:=hH.atr kv;clear kv;rw[stepG_region_end];simp only[goes_go];refine⟨j6,?_⟩;refine Goes.step rfl λwz kv=>?_;replace hH:=hH.atr kv;clear kv;rw[stepG_cond (t:=true) (by simp[Act.eval])];simp only[goes_go];refine⟨j6,?_⟩;simp only[if_true];refine Goes.step rfl λwz kv=>?_;replace hH:=hH.atr kv;clear kv;rw[stepG_seq];simp only[goes_go];refine⟨j6,?_⟩;refine Goes.step rfl λwz kv=>?_;replace hH:=hH.atr kv;clear kv;rw[stepG_region];simp only[goes_go,List.size_toArray,List.length_cons,List.length_nil,Nat.reduceAdd,Nat.zero_add,List.range,List.range.loop];refine⟨j6,?_⟩;refine Goes.step rfl λwz kv=>?_;replace hH:=hH.atr kv;clear kv;refine goes_oper_k rfl rfl hbk λK hK=>?_;go_simp;refine hK _ _ ⟨λe he=>?_,?_⟩
 ·have hm:=mem_listed he;simp[go_sem,execOp,resolve,invoke,builtin,Act.eval]at hm
 clear hK K;try walk_nrm
 refine Goes.step rfl λwz kv=>?_;replace hH:=hH.atr kv;clear kv;rw[stepG_region_end];simp only[goes_go];refine⟨j6,?_⟩;refine Goes.step rfl λwz kv=>?_;replace hH:=hH.atr kv;clear kv;rw[stepG_ret'];simp only[goes_go];refine⟨j6,?_⟩;refine Goes.stop (λwz kv=>⟨rfl,.bool true,#[],?_,λe he=>by simp at he,hPost _ (hH.atr kv)⟩);subst hb;simp[G,stepG,unwind,Frame.at,Tryz.f3,results,Tryz.results3,go_sem,Sem.runT,seen,doReturn,GStep.after];try omega
end Go.Proofs.YtbcegllhelfijaaGreatDoor
