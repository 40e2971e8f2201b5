/-
  A part of the proof.
-/
import Derived.Test.YtbcegllhelfijaaGreatDoorY29
set_option linter.all false
set_option maxRecDepth 100000
set_option maxHeartbeats 8000000
namespace Go.Proofs.YtbcegllhelfijaaGreatDoor
open Go.Proofs.Mn
open Go Go.Conc Go.RowKit Go.Conc.Lib Go.ConcR.Gen Go.ConcN.Gen
theorem j6m (T:ByteArray)(hn:¬((T.size:Int)>1048576)) :
  ∃law1:Frame,ToCall (G (Frame.enter Tryz.prog 6 #[.string T] .normal) []) 14 #[.string T] law1/\∀V:ByteArray,∃law2:Frame,ToCall (G (law1.finish (.string V)) []) 13 #[.string T] law2/\ToEnd (G (law2.finish (.string V)) []):=by
 have e0:=j18 (P:=Tryz.prog) (args:=#[.string T]) (kind:=.normal) (T:=#[.string T,undef,undef,undef,undef,undef,undef,undef,undef,undef,undef,undef,undef,undef,undef]) Tryz.func6 rfl (by kernel_rfl);obtain⟨b,hb⟩:∃b:Frame,b=({ fn:=6,tmps:=#[],todo:=[],defers:=[],mode:=.run,kind:=.normal,roundOf:=none }:Frame):=⟨_,rfl⟩;rw[<- hb]at e0;rw[e0];have hbk:b.kind≠.early:=by rw[hb];simp
 refine⟨?law1,⟨?_,?_,?goes1⟩,?next1⟩
 case goes1=>
  intro S B W;have hH:AtRel W W:=atRel_refl W;try simp only[Tryz.f6,Option.getD_some]
  refine Goes.step rfl λwz kv=>?_;replace hH:=hH.atr kv;clear kv;rw[stepG_seq];simp only[goes_go];refine⟨j6,?_⟩;refine Goes.step rfl λwz kv=>?_;replace hH:=hH.atr kv;clear kv;rw[stepG_region];simp only[goes_go,List.size_toArray,List.length_cons,List.length_nil,Nat.reduceAdd,Nat.zero_add,List.range,List.range.loop];refine⟨j6,?_⟩;refine Goes.step rfl λwz kv=>?_;replace hH:=hH.atr kv;clear kv;refine goes_oper_k rfl rfl hbk λK hK=>?_;go_simp;refine hK _ _ ⟨λe he=>?_,?_⟩
  ·have hm:=mem_listed he;simp[go_sem,execOp,resolve,invoke,builtin,Act.eval]at hm
  clear hK K;try walk_nrm
  refine Goes.step rfl λwz kv=>?_;replace hH:=hH.atr kv;clear kv;rw[stepG_region_end];simp only[goes_go];refine⟨j6,?_⟩;refine Goes.step rfl λwz kv=>?_;replace hH:=hH.atr kv;clear kv;rw[stepG_seq];simp only[goes_go];refine⟨j6,?_⟩;refine Goes.step rfl λwz kv=>?_;replace hH:=hH.atr kv;clear kv;rw[stepG_seq];simp only[goes_go];refine⟨j6,?_⟩;refine Goes.step rfl λwz kv=>?_;replace hH:=hH.atr kv;clear kv;rw[stepG_region];simp only[goes_go,List.size_toArray,List.length_cons,List.length_nil,Nat.reduceAdd,Nat.zero_add,List.range,List.range.loop];refine⟨j6,?_⟩;refine Goes.step rfl λwz kv=>?_;replace hH:=hH.atr kv;clear kv;refine goes_oper_k rfl rfl hbk λK hK=>?_;go_simp;refine hK _ _ ⟨λe he=>?_,?_⟩
  ·have hm:=mem_listed he;simp[go_sem,execOp,resolve,invoke,builtin,Act.eval]at hm
  clear hK K;try walk_nrm
  refine Goes.step rfl λwz kv=>?_;replace hH:=hH.atr kv;clear kv;refine goes_oper_k rfl rfl hbk λK hK=>?_;go_simp;refine hK _ _ ⟨λe he=>?_,?_⟩
  ·have hm:=mem_listed he;simp[go_sem,execOp,resolve,invoke,builtin,Act.eval,Builtin.len_]at hm
  clear hK K;try walk_nrm
  refine Goes.step rfl λwz kv=>?_;replace hH:=hH.atr kv;clear kv;refine goes_oper_k rfl rfl hbk λK hK=>?_;go_simp;refine hK _ _ ⟨λe he=>?_,?_⟩
  ·have hm:=mem_listed he;simp[go_sem,execOp,resolve,invoke,builtin,Act.eval]at hm
  clear hK K;try walk_nrm
  refine Goes.step rfl λwz kv=>?_;replace hH:=hH.atr kv;clear kv;rw[stepG_region_end];simp only[goes_go];refine⟨j6,?_⟩;refine Goes.step rfl λwz kv=>?_;replace hH:=hH.atr kv;clear kv;rw[stepG_cond (t:=false) (by simp[Act.eval])];simp only[goes_go];refine⟨j6,?_⟩;simp only[Bool.false_eq_true,if_false];refine Goes.step rfl λwz kv=>?_;replace hH:=hH.atr kv;clear kv;rw[stepG_skip];simp only[goes_go];refine⟨j6,?_⟩;refine Goes.step rfl λwz kv=>?_;replace hH:=hH.atr kv;clear kv;rw[stepG_seq];simp only[goes_go];refine⟨j6,?_⟩;refine Goes.step rfl λwz kv=>?_;replace hH:=hH.atr kv;clear kv;rw[stepG_region];simp only[goes_go,List.size_toArray,List.length_cons,List.length_nil,Nat.reduceAdd,Nat.zero_add,List.range,List.range.loop];refine⟨j6,?_⟩;refine Goes.step rfl λwz kv=>?_;replace hH:=hH.atr kv;clear kv;refine goes_oper_k rfl rfl hbk λK hK=>?_;go_simp;refine hK _ _ ⟨λe he=>?_,?_⟩
  ·have hm:=mem_listed he;simp[go_sem,execOp,resolve,invoke,builtin,Act.eval]at hm
  clear hK K;try walk_nrm
  refine Goes.step rfl λwz kv=>?_;replace hH:=hH.atr kv;clear kv;refine goes_call rfl rfl hbk rfl Tryz.func14 (by kernel_rfl) rfl ⟨j6,?_⟩;refine Goes.stop (λwz kv=>⟨hH.atr kv,?_⟩);rw[enter_at #[.string T] Tryz.func14 rfl];simp only[List.map_toArray,List.map_cons,List.map_nil,Act.eval];exact rfl
 ·rw[hb];rfl
 ·rw[hb];rfl
 case next1=>
  intro V;refine⟨?law2,⟨?_,?_,?goes2⟩,?next2⟩
  case goes2=>
   intro S B W;have hH:AtRel W W:=atRel_refl W;rw[ju rfl rfl]
   walk_nrm
   refine Goes.step rfl λwz kv=>?_;replace hH:=hH.atr kv;clear kv;refine goes_oper_k rfl rfl hbk λK hK=>?_;go_simp;refine hK _ _ ⟨λe he=>?_,?_⟩
   ·have hm:=mem_listed he;simp[go_sem,execOp,resolve,invoke,builtin,Act.eval]at hm
   clear hK K;try walk_nrm
   refine Goes.step rfl λwz kv=>?_;replace hH:=hH.atr kv;clear kv;rw[stepG_region_end];simp only[goes_go];refine⟨j6,?_⟩;refine Goes.step rfl λwz kv=>?_;replace hH:=hH.atr kv;clear kv;rw[stepG_seq];simp only[goes_go];refine⟨j6,?_⟩;refine Goes.step rfl λwz kv=>?_;replace hH:=hH.atr kv;clear kv;rw[stepG_region];simp only[goes_go,List.size_toArray,List.length_cons,List.length_nil,Nat.reduceAdd,Nat.zero_add,List.range,List.range.loop];refine⟨j6,?_⟩;refine Goes.step rfl λwz kv=>?_;replace hH:=hH.atr kv;clear kv;refine goes_oper_k rfl rfl hbk λK hK=>?_;go_simp;refine hK _ _ ⟨λe he=>?_,?_⟩
   ·have hm:=mem_listed he;simp[go_sem,execOp,resolve,invoke,builtin,Act.eval]at hm
   clear hK K;try walk_nrm
   refine Goes.step rfl λwz kv=>?_;replace hH:=hH.atr kv;clear kv;refine goes_call rfl rfl hbk rfl Tryz.func13 (by kernel_rfl) rfl ⟨j6,?_⟩;refine Goes.stop (λwz kv=>⟨hH.atr kv,?_⟩);rw[enter_at #[.string T] Tryz.func13 rfl];simp only[List.map_toArray,List.map_cons,List.map_nil,Act.eval];exact rfl
  ·rw[hb];rfl
  ·rw[hb];rfl
  case next2=>
   intro Post S B W hPost;have hH:AtRel W W:=atRel_refl W;rw[ju rfl rfl]
   walk_nrm
   refine Goes.step rfl λwz kv=>?_;replace hH:=hH.atr kv;clear kv;refine goes_oper_k rfl rfl hbk λK hK=>?_;go_simp;refine hK _ _ ⟨λe he=>?_,?_⟩
   ·have hm:=mem_listed he;simp[go_sem,execOp,resolve,invoke,builtin,Act.eval]at hm
   clear hK K;try walk_nrm
   refine Goes.step rfl λwz kv=>?_;replace hH:=hH.atr kv;clear kv;rw[stepG_region_end];simp only[goes_go];refine⟨j6,?_⟩;refine Goes.step rfl λwz kv=>?_;replace hH:=hH.atr kv;clear kv;rw[stepG_seq];simp only[goes_go];refine⟨j6,?_⟩;refine Goes.step rfl λwz kv=>?_;replace hH:=hH.atr kv;clear kv;rw[stepG_seq];simp only[goes_go];refine⟨j6,?_⟩;refine Goes.step rfl λwz kv=>?_;replace hH:=hH.atr kv;clear kv;rw[stepG_region];simp only[goes_go,List.size_toArray,List.length_cons,List.length_nil,Nat.reduceAdd,Nat.zero_add,List.range,List.range.loop];refine⟨j6,?_⟩;refine Goes.step rfl λwz kv=>?_;replace hH:=hH.atr kv;clear kv;refine goes_oper_k rfl rfl hbk λK hK=>?_;go_simp;refine hK _ _ ⟨λe he=>?_,?_⟩
   ·have hm:=mem_listed he;simp[go_sem,execOp,resolve,invoke,builtin,Act.eval]at hm
   clear hK K;try walk_nrm
   refine Goes.step rfl λwz kv=>?_;replace hH:=hH.atr kv;clear kv;refine goes_oper_k rfl rfl hbk λK hK=>?_;go_simp;refine hK _ _ ⟨λe he=>?_,?_⟩
   ·have hm:=mem_listed he;simp[go_sem,execOp,resolve,invoke,builtin,Act.eval]at hm
   clear hK K;try walk_nrm
   refine Goes.step rfl λwz kv=>?_;replace hH:=hH.atr kv;clear kv;refine goes_oper_k rfl rfl hbk λK hK=>?_;go_simp;refine hK _ _ ⟨λe he=>?_,?_⟩
   ·have hm:=mem_listed he;simp[go_sem,execOp,resolve,invoke,builtin,Act.eval]at hm
   clear hK K;try walk_nrm
   refine Goes.step rfl λwz kv=>?_;replace hH:=hH.atr kv;clear kv;rw[stepG_region_end];simp only[goes_go];refine⟨j6,?_⟩;refine Goes.step rfl λwz kv=>?_;replace hH:=hH.atr kv;clear kv;rw[stepG_cond (t:=false) (by simp[Act.eval])];simp only[goes_go];refine⟨j6,?_⟩;simp only[Bool.false_eq_true,if_false];refine Goes.step rfl λwz kv=>?_;replace hH:=hH.atr kv;clear kv;rw[stepG_skip];simp only[goes_go];refine⟨j6,?_⟩;refine Goes.step rfl λwz kv=>?_;replace hH:=hH.atr kv;clear kv;rw[stepG_seq];simp only[goes_go];refine⟨j6,?_⟩;refine Goes.step rfl λwz kv=>?_;replace hH:=hH.atr kv;clear kv;rw[stepG_region];simp only[goes_go,List.size_toArray,List.length_cons,List.length_nil,Nat.reduceAdd,Nat.zero_add,List.range,List.range.loop];refine⟨j6,?_⟩;refine Goes.step rfl λwz kv=>?_;replace hH:=hH.atr kv;clear kv;refine goes_oper_k rfl rfl hbk λK hK=>?_;go_simp;refine hK _ _ ⟨λe he=>?_,?_⟩
   ·have hm:=mem_listed he;simp[go_sem,execOp,resolve,invoke,builtin,Act.eval]at hm
   clear hK K;try walk_nrm
   refine Goes.step rfl λwz kv=>?_;replace hH:=hH.atr kv;clear kv;rw[stepG_region_end];simp only[goes_go];refine⟨j6,?_⟩;refine Goes.step rfl λwz kv=>?_;replace hH:=hH.atr kv;clear kv;rw[stepG_ret'];simp only[goes_go];refine⟨j6,?_⟩;refine Goes.stop (λwz kv=>⟨rfl,.bool true,#[],?_,λe he=>by simp at he,hPost _ (hH.atr kv)⟩);subst hb;simp[G,stepG,unwind,Frame.at,Tryz.f6,results,Tryz.results6,go_sem,Sem.runT,seen,doReturn,GStep.after];try omega
theorem j6o (T:ByteArray)(hn:(T.size:Int)>1048576):ToEnd (G (Frame.enter Tryz.prog 6 #[.string T] .normal) []):=by
 have e0:=j18 (P:=Tryz.prog) (args:=#[.string T]) (kind:=.normal) (T:=#[.string T,undef,undef,undef,undef,undef,undef,undef,undef,undef,undef,undef,undef,undef,undef]) Tryz.func6 rfl (by kernel_rfl);obtain⟨b,hb⟩:∃b:Frame,b=({ fn:=6,tmps:=#[],todo:=[],defers:=[],mode:=.run,kind:=.normal,roundOf:=none }:Frame):=⟨_,rfl⟩;rw[<- hb]at e0;rw[e0];have hbk:b.kind≠.early:=by rw[hb];simp
 intro Post S B W hPost;have hH:AtRel W W:=atRel_refl W;try simp only[Tryz.f6,Option.getD_some]
 refine Goes.step rfl λwz kv=>?_;replace hH:=hH.atr kv;clear kv;rw[stepG_seq];simp only[goes_go];refine⟨j6,?_⟩;refine Goes.step rfl λwz kv=>?_;replace hH:=hH.atr kv;clear kv;rw[stepG_region];simp only[goes_go,List.size_toArray,List.length_cons,List.length_nil,Nat.reduceAdd,Nat.zero_add,List.range,List.range.loop];refine⟨j6,?_⟩;refine Goes.step rfl λwz kv=>?_;replace hH:=hH.atr kv;clear kv;refine goes_oper_k rfl rfl hbk λK hK=>?_;go_simp;refine hK _ _ ⟨λe he=>?_,?_⟩
 ·have hm:=mem_listed he;simp[go_sem,execOp,resolve,invoke,builtin,Act.eval]at hm
 clear hK K;try walk_nrm
 refine Goes.step rfl λwz kv=>?_;replace hH:=hH.atr kv;clear kv;rw[stepG_region_end];simp only[goes_go];refine⟨j6,?_⟩;refine Goes.step rfl λwz kv=>?_;replace hH:=hH.atr kv;clear kv;rw[stepG_seq];simp only[goes_go];refine⟨j6,?_⟩;refine Goes.step rfl λwz kv=>?_;replace hH:=hH.atr kv;clear kv;rw[stepG_seq];simp only[goes_go];refine⟨j6,?_⟩;refine Goes.step rfl λwz kv=>?_;replace hH:=hH.atr kv;clear kv;rw[stepG_region];simp only[goes_go,List.size_toArray,List.length_cons,List.length_nil,Nat.reduceAdd,Nat.zero_add,List.range,List.range.loop];refine⟨j6,?_⟩;refine Goes.step rfl λwz kv=>?_;replace hH:=hH.atr kv;clear kv;refine goes_oper_k rfl rfl hbk λK hK=>?_;go_simp;refine hK _ _ ⟨λe he=>?_,?_⟩
 ·have hm:=mem_listed he;simp[go_sem,execOp,resolve,invoke,builtin,Act.eval]at hm
 clear hK K;try walk_nrm
 refine Goes.step rfl λwz kv=>?_;replace hH:=hH.atr kv;clear kv;refine goes_oper_k rfl rfl hbk λK hK=>?_;go_simp;refine hK _ _ ⟨λe he=>?_,?_⟩
 ·have hm:=mem_listed he;simp[go_sem,execOp,resolve,invoke,builtin,Act.eval,Builtin.len_]at hm
 clear hK K;try walk_nrm
 refine Goes.step rfl λwz kv=>?_;replace hH:=hH.atr kv;clear kv;refine goes_oper_k rfl rfl hbk λK hK=>?_;go_simp;refine hK _ _ ⟨λe he=>?_,?_⟩
 ·have hm:=mem_listed he;simp[go_sem,execOp,resolve,invoke,builtin,Act.eval]at hm
 clear hK K;try walk_nrm
 refine Goes.step rfl λwz kv=>?_;replace hH:=hH.atr kv;clear kv;rw[stepG_region_end];simp only[goes_go];refine⟨j6,?_⟩;refine Goes.step rfl λwz kv=>?_;replace hH:=hH.atr kv;clear kv;rw[stepG_cond (t:=true) (by simp[Act.eval])];simp only[goes_go];refine⟨j6,?_⟩;simp only[if_true];refine Goes.step rfl λwz kv=>?_;replace hH:=hH.atr kv;clear kv;rw[stepG_seq];simp only[goes_go];refine⟨j6,?_⟩;refine Goes.step rfl λwz kv=>?_;replace hH:=hH.atr kv;clear kv;rw[stepG_region];simp only[goes_go,List.size_toArray,List.length_cons,List.length_nil,Nat.reduceAdd,Nat.zero_add,List.range,List.range.loop];refine⟨j6,?_⟩;refine Goes.step rfl λwz kv=>?_;replace hH:=hH.atr kv;clear kv;refine goes_oper_k rfl rfl hbk λK hK=>?_;go_simp;refine hK _ _ ⟨λe he=>?_,?_⟩
 ·have hm:=mem_listed he;simp[go_sem,execOp,resolve,invoke,builtin,Act.eval]at hm
 clear hK K;try walk_nrm
 refine Goes.step rfl λwz kv=>?_;replace hH:=hH.atr kv;clear kv;rw[stepG_region_end];simp only[goes_go];refine⟨j6,?_⟩;refine Goes.step rfl λwz kv=>?_;replace hH:=hH.atr kv;clear kv;rw[stepG_ret'];simp only[goes_go];refine⟨j6,?_⟩;refine Goes.stop (λwz kv=>⟨rfl,.bool true,#[],?_,λe he=>by simp at he,hPost _ (hH.atr kv)⟩);subst hb;simp[G,stepG,unwind,Frame.at,Tryz.f6,results,Tryz.results6,go_sem,Sem.runT,seen,doReturn,GStep.after];try omega
end Go.Proofs.YtbcegllhelfijaaGreatDoor
