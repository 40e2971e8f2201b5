/-
  A part of the proof.
-/
import Derived.Test.YtbcegllhelfijaaGreatDoorW00
set_option linter.all false
set_option maxRecDepth 100000
set_option maxHeartbeats 8000000
namespace Go.Proofs.YtbcegllhelfijaaGreatDoor
open Go.Proofs.Mn
open Go Go.Conc Go.RowKit Go.Conc.Lib Go.ConcR.Gen Go.ConcN.Gen
theorem jyy (a:Option Addr)(n cap:Nat)(hn:¬((n:Int)>1048576)) :
  ∃law1:Frame,ToCall (G (Frame.enter Tryz.prog 5 #[.slice a n cap] .normal) []) 12 #[.slice a n cap] law1/\∀T:ByteArray,T.size<=10000->∃law2:Frame,ToCall (G (law1.finish (.string T)) []) 13 #[.string T] law2/\∀V:ByteArray,∃law3:Frame,ToCall (G (law2.finish (.string V)) []) 14 #[.string T] law3/\((T.size:Int)+4>400->ToEnd (G (law3.finish (.string V)) []))/\(¬((T.size:Int)+4>400)->∃law4:Frame,ToCall (G (law3.finish (.string V)) []) 15 #[.string T] law4/\∀X:ByteArray,X.size<=10000->∃law5:Frame,ToCall (G (law4.finish (.string X)) []) 13 #[.string X] law5/\∀Y:ByteArray,Y.size<=9000000->∃law6:Frame,ToCall (G (law5.finish (.string Y)) []) 16 #[.string Y] law6/\∀E:ByteArray,E.size<=Y.size->∃Ok:Frame->Prop,ToCallAny (G (law6.finish (.string E)) []) 13 #[.string (X++ZZB)] Ok/\∀law,Ok law->ToEnd (G (law.finish (WV X Y E 2)) [])):=by
 have e0:=j18 (P:=Tryz.prog) (args:=#[.slice a n cap]) (kind:=.normal) (T:=#[.slice a n cap,undef,undef,undef,undef,undef,undef,undef,undef,undef,undef,undef,undef,undef,undef,undef,undef,undef,undef,undef,undef,undef,undef,undef,undef,undef,undef,undef,undef,undef,undef,undef,undef,undef,undef,undef,undef,undef,undef,undef,undef,undef,undef,undef,undef,undef,undef,undef,undef,undef]) Tryz.func5 rfl (by kernel_rfl);obtain⟨b,hb⟩:∃b:Frame,b=({ fn:=5,tmps:=#[],todo:=[],defers:=[],mode:=.run,kind:=.normal,roundOf:=none }:Frame):=⟨_,rfl⟩;rw[<- hb]at e0;rw[e0];have hbk:b.kind≠.early:=by rw[hb];simp
 refine⟨?law1,⟨?_,?_,?goes1⟩,?next1⟩
 case goes1=>
  intro S B W;have hH:AtRel W W:=atRel_refl W;try simp only[Tryz.f5,Option.getD_some]
  refine gt hH rfl (λ_=>stepG_seq) λwy hH=>?_;refine gs hH rfl λwy hH=>?_;rw[stepG_region];simp only[goes_go,List.size_toArray,List.length_cons,List.length_nil,Nat.reduceAdd,Nat.zero_add,List.range,List.range.loop];refine⟨j6,?_⟩;refine gs hH rfl λwy hH=>?_;refine goes_oper_k rfl rfl hbk λK hK=>?_;go_simp;refine hK _ _ ⟨λe he=>?_,?_⟩
  ·have hm:=mem_listed he;simp[go_sem,execOp,resolve,invoke,builtin,Act.eval]at hm
  clear hK K;try walk_nrm
  refine gt hH rfl (λ_=>stepG_region_end) λwy hH=>?_;refine gt hH rfl (λ_=>stepG_seq) λwy hH=>?_;refine gt hH rfl (λ_=>stepG_seq) λwy hH=>?_;refine gs hH rfl λwy hH=>?_;rw[stepG_region];simp only[goes_go,List.size_toArray,List.length_cons,List.length_nil,Nat.reduceAdd,Nat.zero_add,List.range,List.range.loop];refine⟨j6,?_⟩;refine gs hH rfl λwy hH=>?_;refine goes_oper_k rfl rfl hbk λK hK=>?_;go_simp;refine hK _ _ ⟨λe he=>?_,?_⟩
  ·have hm:=mem_listed he;simp[go_sem,execOp,resolve,invoke,builtin,Act.eval]at hm
  clear hK K;try walk_nrm
  refine gs hH rfl λwy hH=>?_;refine goes_oper_k rfl rfl hbk λK hK=>?_;go_simp;refine hK _ _ ⟨λe he=>?_,?_⟩
  ·have hm:=mem_listed he;simp[go_sem,execOp,resolve,invoke,builtin,Act.eval,Builtin.len_]at hm
  clear hK K;try walk_nrm
  refine gs hH rfl λwy hH=>?_;refine goes_oper_k rfl rfl hbk λK hK=>?_;go_simp;refine hK _ _ ⟨λe he=>?_,?_⟩
  ·have hm:=mem_listed he;simp[go_sem,execOp,resolve,invoke,builtin,Act.eval]at hm
  clear hK K;try walk_nrm
  refine gt hH rfl (λ_=>stepG_region_end) λwy hH=>?_;refine gs hH rfl λwy hH=>?_;rw[stepG_cond (t:=false) (by simp[Act.eval])];simp only[goes_go];refine⟨j6,?_⟩;simp only[Bool.false_eq_true,if_false];refine gt hH rfl (λ_=>stepG_skip) λwy hH=>?_;refine gt hH rfl (λ_=>stepG_seq) λwy hH=>?_;refine gs hH rfl λwy hH=>?_;rw[stepG_region];simp only[goes_go,List.size_toArray,List.length_cons,List.length_nil,Nat.reduceAdd,Nat.zero_add,List.range,List.range.loop];refine⟨j6,?_⟩;refine gs hH rfl λwy hH=>?_;refine goes_oper_k rfl rfl hbk λK hK=>?_;go_simp;refine hK _ _ ⟨λe he=>?_,?_⟩
  ·have hm:=mem_listed he;simp[go_sem,execOp,resolve,invoke,builtin,Act.eval]at hm
  clear hK K;try walk_nrm
  refine gs hH rfl λwy hH=>?_;refine goes_call rfl rfl hbk rfl Tryz.func12 (by kernel_rfl) rfl ⟨j6,?_⟩;refine Goes.stop (λwy kb=>⟨hH.atr kb,?_⟩);rw[enter_at #[.slice a n cap] Tryz.func12 rfl];simp only[List.map_toArray,List.map_cons,List.map_nil,Act.eval];exact rfl
 ·rw[hb];rfl
 ·rw[hb];rfl
 case next1=>
  intro T hT;have w7:IntKind.i64.wrap ((T.size:Int)+7)=(T.size:Int)+7:=IntWalk.i64_in _ (by omega);have w4:IntKind.i64.wrap ((T.size:Int)+4)=(T.size:Int)+4:=IntWalk.i64_in _ (by omega);refine⟨?law2,⟨?_,?_,?goes2⟩,?next2⟩
  case goes2=>
   intro S B W;have hH:AtRel W W:=atRel_refl W;rw[ju rfl rfl]
   walk_nrm
   refine gs hH rfl λwy hH=>?_;refine goes_oper_k rfl rfl hbk λK hK=>?_;go_simp;refine hK _ _ ⟨λe he=>?_,?_⟩
   ·have hm:=mem_listed he;simp[go_sem,execOp,resolve,invoke,builtin,Act.eval]at hm
   clear hK K;try walk_nrm
   refine gt hH rfl (λ_=>stepG_region_end) λwy hH=>?_;refine gt hH rfl (λ_=>stepG_seq) λwy hH=>?_;refine gs hH rfl λwy hH=>?_;rw[stepG_region];simp only[goes_go,List.size_toArray,List.length_cons,List.length_nil,Nat.reduceAdd,Nat.zero_add,List.range,List.range.loop];refine⟨j6,?_⟩;refine gs hH rfl λwy hH=>?_;refine goes_oper_k rfl rfl hbk λK hK=>?_;go_simp;refine hK _ _ ⟨λe he=>?_,?_⟩
   ·have hm:=mem_listed he;simp[go_sem,execOp,resolve,invoke,builtin,Act.eval]at hm
   clear hK K;try walk_nrm
   refine gs hH rfl λwy hH=>?_;refine goes_call rfl rfl hbk rfl Tryz.func13 (by kernel_rfl) rfl ⟨j6,?_⟩;refine Goes.stop (λwy kb=>⟨hH.atr kb,?_⟩);rw[enter_at #[.string T] Tryz.func13 rfl];simp only[List.map_toArray,List.map_cons,List.map_nil,Act.eval];exact rfl
  ·rw[hb];rfl
  ·rw[hb];rfl
  case next2=>
   intro V;refine⟨?law3,⟨?_,?_,?goes3⟩,?next3⟩
   case goes3=>
    intro S B W;have hH:AtRel W W:=atRel_refl W;rw[ju rfl rfl]
    walk_nrm
    refine gs hH rfl λwy hH=>?_;refine goes_oper_k rfl rfl hbk λK hK=>?_;go_simp;refine hK _ _ ⟨λe he=>?_,?_⟩
    ·have hm:=mem_listed he;simp[go_sem,execOp,resolve,invoke,builtin,Act.eval]at hm
    clear hK K;try walk_nrm
    refine gt hH rfl (λ_=>stepG_region_end) λwy hH=>?_;refine gt hH rfl (λ_=>stepG_seq) λwy hH=>?_;refine gs hH rfl λwy hH=>?_;rw[stepG_region];simp only[goes_go,List.size_toArray,List.length_cons,List.length_nil,Nat.reduceAdd,Nat.zero_add,List.range,List.range.loop];refine⟨j6,?_⟩;refine gs hH rfl λwy hH=>?_;refine goes_oper_k rfl rfl hbk λK hK=>?_;go_simp;refine hK _ _ ⟨λe he=>?_,?_⟩
    ·have hm:=mem_listed he;simp[go_sem,execOp,resolve,invoke,builtin,Act.eval]at hm
    clear hK K;try walk_nrm
    refine gs hH rfl λwy hH=>?_;refine goes_call rfl rfl hbk rfl Tryz.func14 (by kernel_rfl) rfl ⟨j6,?_⟩;refine Goes.stop (λwy kb=>⟨hH.atr kb,?_⟩);rw[enter_at #[.string T] Tryz.func14 rfl];simp only[List.map_toArray,List.map_cons,List.map_nil,Act.eval];exact rfl
   ·rw[hb];rfl
   ·rw[hb];rfl
   case next3=>
    refine⟨?_,?_⟩
    ·intro hL;intro Post S B W hPost;have hH:AtRel W W:=atRel_refl W;rw[ju rfl rfl]
     walk_nrm
     refine gs hH rfl λwy hH=>?_;refine goes_oper_k rfl rfl hbk λK hK=>?_;go_simp;refine hK _ _ ⟨λe he=>?_,?_⟩
     ·have hm:=mem_listed he;simp[go_sem,execOp,resolve,invoke,builtin,Act.eval]at hm
     clear hK K;try walk_nrm
     refine gt hH rfl (λ_=>stepG_region_end) λwy hH=>?_;refine gt hH rfl (λ_=>stepG_seq) λwy hH=>?_;refine gt hH rfl (λ_=>stepG_seq) λwy hH=>?_;refine gs hH rfl λwy hH=>?_;rw[stepG_region];simp only[goes_go,List.size_toArray,List.length_cons,List.length_nil,Nat.reduceAdd,Nat.zero_add,List.range,List.range.loop];refine⟨j6,?_⟩;refine gs hH rfl λwy hH=>?_;refine goes_oper_k rfl rfl hbk λK hK=>?_;go_simp;refine hK _ _ ⟨λe he=>?_,?_⟩
     ·have hm:=mem_listed he;simp[go_sem,execOp,resolve,invoke,builtin,Act.eval]at hm
     clear hK K;try walk_nrm
     refine gs hH rfl λwy hH=>?_;refine goes_oper_k rfl rfl hbk λK hK=>?_;go_simp;refine hK _ _ ⟨λe he=>?_,?_⟩
     ·have hm:=mem_listed he;simp[go_sem,execOp,resolve,invoke,builtin,Act.eval]at hm
     clear hK K;try walk_nrm
     refine gs hH rfl λwy hH=>?_;refine goes_oper_k rfl rfl hbk λK hK=>?_;go_simp;refine hK _ _ ⟨λe he=>?_,?_⟩
     ·have hm:=mem_listed he;simp[go_sem,execOp,resolve,invoke,builtin,Act.eval]at hm
     clear hK K;try walk_nrm
     refine gs hH rfl λwy hH=>?_;refine goes_oper_k rfl rfl hbk λK hK=>?_;go_simp;refine hK _ _ ⟨λe he=>?_,?_⟩
     ·have hm:=mem_listed he;simp[go_sem,execOp,resolve,invoke,builtin,Act.eval]at hm
     clear hK K;try walk_nrm
     refine gs hH rfl λwy hH=>?_;refine goes_oper_k rfl rfl hbk λK hK=>?_;go_simp;refine hK _ _ ⟨λe he=>?_,?_⟩
     ·have hm:=mem_listed he;simp[go_sem,execOp,resolve,invoke,builtin,Act.eval]at hm
     clear hK K;try walk_nrm
     refine gs hH rfl λwy hH=>?_;refine goes_oper_k rfl rfl hbk λK hK=>?_;go_simp;refine hK _ _ ⟨λe he=>?_,?_⟩
     ·have hm:=mem_listed he;simp[go_sem,execOp,resolve,invoke,builtin,Act.eval,Builtin.len_]at hm
     clear hK K;try walk_nrm
     refine gs hH rfl λwy hH=>?_;refine goes_oper_k rfl rfl hbk λK hK=>?_;go_simp;refine hK _ _ ⟨λe he=>?_,?_⟩
     ·have hm:=mem_listed he;simp[go_sem,execOp,resolve,invoke,builtin,Act.eval]at hm
     clear hK K;try walk_nrm
     refine gs hH rfl λwy hH=>?_;refine goes_oper_k rfl rfl hbk λK hK=>?_;go_simp;refine hK _ _ ⟨λe he=>?_,?_⟩
     ·have hm:=mem_listed he;simp[go_sem,execOp,resolve,invoke,builtin,Act.eval]at hm
     clear hK K;try walk_nrm
     refine gs hH rfl λwy hH=>?_;refine goes_oper_k rfl rfl hbk λK hK=>?_;go_simp;refine hK _ _ ⟨λe he=>?_,?_⟩
     ·have hm:=mem_listed he;simp[go_sem,execOp,resolve,invoke,builtin,Act.eval]at hm
     clear hK K;try walk_nrm
     refine gt hH rfl (λ_=>stepG_region_end) λwy hH=>?_;refine gs hH rfl λwy hH=>?_;rw[stepG_cond (t:=true) (by simp[Act.eval])];simp only[goes_go];refine⟨j6,?_⟩;simp only[if_true];refine gt hH rfl (λ_=>stepG_seq) λwy hH=>?_;refine gs hH rfl λwy hH=>?_;rw[stepG_region];simp only[goes_go,List.size_toArray,List.length_cons,List.length_nil,Nat.reduceAdd,Nat.zero_add,List.range,List.range.loop];refine⟨j6,?_⟩;refine gs hH rfl λwy hH=>?_;refine goes_oper_k rfl rfl hbk λK hK=>?_;go_simp;refine hK _ _ ⟨λe he=>?_,?_⟩
     ·have hm:=mem_listed he;simp[go_sem,execOp,resolve,invoke,builtin,Act.eval]at hm
     clear hK K;try walk_nrm
     refine gs hH rfl λwy hH=>?_;refine goes_oper_k rfl rfl hbk λK hK=>?_;go_simp;refine hK _ _ ⟨λe he=>?_,?_⟩
     ·have hm:=mem_listed he;simp[go_sem,execOp,resolve,invoke,builtin,Act.eval]at hm
     clear hK K;try walk_nrm
     refine gs hH rfl λwy hH=>?_;refine goes_oper_k rfl rfl hbk λK hK=>?_;go_simp;refine hK _ _ ⟨λe he=>?_,?_⟩
     ·have hm:=mem_listed he;simp[go_sem,execOp,resolve,invoke,builtin,Act.eval]at hm
     clear hK K;try walk_nrm
     refine gs hH rfl λwy hH=>?_;refine goes_oper_k rfl rfl hbk λK hK=>?_;go_simp;refine hK _ _ ⟨λe he=>?_,?_⟩
     ·have hm:=mem_listed he;simp[go_sem,execOp,resolve,invoke,builtin,Act.eval]at hm
     clear hK K;try walk_nrm
     refine gt hH rfl (λ_=>stepG_region_end) λwy hH=>?_;refine gt hH rfl (λ_=>stepG_ret') λwy hH=>?_;refine Goes.stop (λwy kb=>⟨rfl,.bool true,#[],?_,λe he=>by simp at he,hPost _ (hH.atr kb)⟩);subst hb;simp[G,stepG,unwind,Frame.at,Tryz.f5,results,Tryz.results5,go_sem,Sem.runT,seen,doReturn,GStep.after];try omega
    ·intro hL;refine⟨?law4,⟨?_,?_,?goes4⟩,?next4⟩
     case goes4=>
      intro S B W;have hH:AtRel W W:=atRel_refl W;rw[ju rfl rfl]
      walk_nrm
      refine gs hH rfl λwy hH=>?_;refine goes_oper_k rfl rfl hbk λK hK=>?_;go_simp;refine hK _ _ ⟨λe he=>?_,?_⟩
      ·have hm:=mem_listed he;simp[go_sem,execOp,resolve,invoke,builtin,Act.eval]at hm
      clear hK K;try walk_nrm
      refine gt hH rfl (λ_=>stepG_region_end) λwy hH=>?_;refine gt hH rfl (λ_=>stepG_seq) λwy hH=>?_;refine gt hH rfl (λ_=>stepG_seq) λwy hH=>?_;refine gs hH rfl λwy hH=>?_;rw[stepG_region];simp only[goes_go,List.size_toArray,List.length_cons,List.length_nil,Nat.reduceAdd,Nat.zero_add,List.range,List.range.loop];refine⟨j6,?_⟩;refine gs hH rfl λwy hH=>?_;refine goes_oper_k rfl rfl hbk λK hK=>?_;go_simp;refine hK _ _ ⟨λe he=>?_,?_⟩
      ·have hm:=mem_listed he;simp[go_sem,execOp,resolve,invoke,builtin,Act.eval]at hm
      clear hK K;try walk_nrm
      refine gs hH rfl λwy hH=>?_;refine goes_oper_k rfl rfl hbk λK hK=>?_;go_simp;refine hK _ _ ⟨λe he=>?_,?_⟩
      ·have hm:=mem_listed he;simp[go_sem,execOp,resolve,invoke,builtin,Act.eval]at hm
      clear hK K;try walk_nrm
      refine gs hH rfl λwy hH=>?_;refine goes_oper_k rfl rfl hbk λK hK=>?_;go_simp;refine hK _ _ ⟨λe he=>?_,?_⟩
      ·have hm:=mem_listed he;simp[go_sem,execOp,resolve,invoke,builtin,Act.eval]at hm
      clear hK K;try walk_nrm
      refine gs hH rfl λwy hH=>?_;refine goes_oper_k rfl rfl hbk λK hK=>?_;go_simp;refine hK _ _ ⟨λe he=>?_,?_⟩
      ·have hm:=mem_listed he;simp[go_sem,execOp,resolve,invoke,builtin,Act.eval]at hm
      clear hK K;try walk_nrm
      refine gs hH rfl λwy hH=>?_;refine goes_oper_k rfl rfl hbk λK hK=>?_;go_simp;refine hK _ _ ⟨λe he=>?_,?_⟩
      ·have hm:=mem_listed he;simp[go_sem,execOp,resolve,invoke,builtin,Act.eval]at hm
      clear hK K;try walk_nrm
      refine gs hH rfl λwy hH=>?_;refine goes_oper_k rfl rfl hbk λK hK=>?_;go_simp;refine hK _ _ ⟨λe he=>?_,?_⟩
      ·have hm:=mem_listed he;simp[go_sem,execOp,resolve,invoke,builtin,Act.eval,Builtin.len_]at hm
      clear hK K;try walk_nrm
      refine gs hH rfl λwy hH=>?_;refine goes_oper_k rfl rfl hbk λK hK=>?_;go_simp;refine hK _ _ ⟨λe he=>?_,?_⟩
      ·have hm:=mem_listed he;simp[go_sem,execOp,resolve,invoke,builtin,Act.eval]at hm
      clear hK K;try walk_nrm
      refine gs hH rfl λwy hH=>?_;refine goes_oper_k rfl rfl hbk λK hK=>?_;go_simp;refine hK _ _ ⟨λe he=>?_,?_⟩
      ·have hm:=mem_listed he;simp[go_sem,execOp,resolve,invoke,builtin,Act.eval]at hm
      clear hK K;try walk_nrm
      refine gs hH rfl λwy hH=>?_;refine goes_oper_k rfl rfl hbk λK hK=>?_;go_simp;refine hK _ _ ⟨λe he=>?_,?_⟩
      ·have hm:=mem_listed he;simp[go_sem,execOp,resolve,invoke,builtin,Act.eval]at hm
      clear hK K;try walk_nrm
      refine gt hH rfl (λ_=>stepG_region_end) λwy hH=>?_;refine gs hH rfl λwy hH=>?_;rw[stepG_cond (t:=false) (by simp[Act.eval])];simp only[goes_go];refine⟨j6,?_⟩;simp only[Bool.false_eq_true,if_false];refine gt hH rfl (λ_=>stepG_skip) λwy hH=>?_;refine gt hH rfl (λ_=>stepG_seq) λwy hH=>?_;refine gs hH rfl λwy hH=>?_;rw[stepG_region];simp only[goes_go,List.size_toArray,List.length_cons,List.length_nil,Nat.reduceAdd,Nat.zero_add,List.range,List.range.loop];refine⟨j6,?_⟩;refine gs hH rfl λwy hH=>?_;refine goes_oper_k rfl rfl hbk λK hK=>?_;go_simp;refine hK _ _ ⟨λe he=>?_,?_⟩
      ·have hm:=mem_listed he;simp[go_sem,execOp,resolve,invoke,builtin,Act.eval]at hm
      clear hK K;try walk_nrm
      refine gs hH rfl λwy hH=>?_;refine goes_call rfl rfl hbk rfl Tryz.func15 (by kernel_rfl) rfl ⟨j6,?_⟩;refine Goes.stop (λwy kb=>⟨hH.atr kb,?_⟩);rw[enter_at #[.string T] Tryz.func15 rfl];simp only[List.map_toArray,List.map_cons,List.map_nil,Act.eval];exact rfl
     ·rw[hb];rfl
     ·rw[hb];rfl
     case next4=>
      intro X hX;refine⟨?law5,⟨?_,?_,?goes5⟩,?next5⟩
      case goes5=>
       intro S B W;have hH:AtRel W W:=atRel_refl W;rw[ju rfl rfl]
       walk_nrm
       refine gs hH rfl λwy hH=>?_;refine goes_oper_k rfl rfl hbk λK hK=>?_;go_simp;refine hK _ _ ⟨λe he=>?_,?_⟩
       ·have hm:=mem_listed he;simp[go_sem,execOp,resolve,invoke,builtin,Act.eval]at hm
       clear hK K;try walk_nrm
       refine gt hH rfl (λ_=>stepG_region_end) λwy hH=>?_;refine gt hH rfl (λ_=>stepG_seq) λwy hH=>?_;refine gs hH rfl λwy hH=>?_;rw[stepG_region];simp only[goes_go,List.size_toArray,List.length_cons,List.length_nil,Nat.reduceAdd,Nat.zero_add,List.range,List.range.loop];refine⟨j6,?_⟩;refine gs hH rfl λwy hH=>?_;refine goes_oper_k rfl rfl hbk λK hK=>?_;go_simp;refine hK _ _ ⟨λe he=>?_,?_⟩
       ·have hm:=mem_listed he;simp[go_sem,execOp,resolve,invoke,builtin,Act.eval]at hm
       clear hK K;try walk_nrm
       refine gs hH rfl λwy hH=>?_;refine goes_call rfl rfl hbk rfl Tryz.func13 (by kernel_rfl) rfl ⟨j6,?_⟩;refine Goes.stop (λwy kb=>⟨hH.atr kb,?_⟩);rw[enter_at #[.string X] Tryz.func13 rfl];simp only[List.map_toArray,List.map_cons,List.map_nil,Act.eval];exact rfl
      ·rw[hb];rfl
      ·rw[hb];rfl
      case next5=>
       intro Y hY;refine⟨?law6,⟨?_,?_,?goes6⟩,?next6⟩
       case goes6=>
        intro S B W;have hH:AtRel W W:=atRel_refl W;rw[ju rfl rfl]
        walk_nrm
        refine gs hH rfl λwy hH=>?_;refine goes_oper_k rfl rfl hbk λK hK=>?_;go_simp;refine hK _ _ ⟨λe he=>?_,?_⟩
        ·have hm:=mem_listed he;simp[go_sem,execOp,resolve,invoke,builtin,Act.eval]at hm
        clear hK K;try walk_nrm
        refine gt hH rfl (λ_=>stepG_region_end) λwy hH=>?_;refine gt hH rfl (λ_=>stepG_seq) λwy hH=>?_;refine gs hH rfl λwy hH=>?_;rw[stepG_region];simp only[goes_go,List.size_toArray,List.length_cons,List.length_nil,Nat.reduceAdd,Nat.zero_add,List.range,List.range.loop];refine⟨j6,?_⟩;refine gs hH rfl λwy hH=>?_;refine goes_oper_k rfl rfl hbk λK hK=>?_;go_simp;refine hK _ _ ⟨λe he=>?_,?_⟩
        ·have hm:=mem_listed he;simp[go_sem,execOp,resolve,invoke,builtin,Act.eval]at hm
        clear hK K;try walk_nrm
        refine gs hH rfl λwy hH=>?_;refine goes_call rfl rfl hbk rfl Tryz.func16 (by kernel_rfl) rfl ⟨j6,?_⟩;refine Goes.stop (λwy kb=>⟨hH.atr kb,?_⟩);rw[enter_at #[.string Y] Tryz.func16 rfl];simp only[List.map_toArray,List.map_cons,List.map_nil,Act.eval];exact rfl
       ·rw[hb];rfl
       ·rw[hb];rfl
       case next6=>
        intro E hE;refine⟨WOk b ?ops ?k X Y E,?goes,?rest⟩
        case goes=>
         intro S B W;have hH:AtRel W W:=atRel_refl W;rw[ju rfl rfl]
         walk_nrm
         refine gs hH rfl λwy hH=>?_;refine goes_oper_k rfl rfl hbk λK hK=>?_;go_simp;refine hK _ _ ⟨λe he=>?_,?_⟩
         ·have hm:=mem_listed he;simp[go_sem,execOp,resolve,invoke,builtin,Act.eval]at hm
         clear hK K;try walk_nrm
         refine gt hH rfl (λ_=>stepG_region_end) λwy hH=>?_;refine gt hH rfl (λ_=>stepG_seq) λwy hH=>?_;refine gs hH rfl λwy hH=>?_;rw[stepG_region_draw,jz7 (by kernel_rfl)];simp only[goes_go];refine⟨j6,?_⟩;replace hH:=hH.atr (⟨wy.drawn+1,rfl⟩:AtRel wy { wy with drawn:=wy.drawn+1 });refine Goes.mono (jz3 (W0:=W) hbk (λl a=>WInv X Y E l a/\l.getD 2 false=false) 2 10 (λl a h=>by rw[h.1.size];rfl) (jzj (by rfl)) ?hop ?hcall ?hdone 15 _ _ _ _ hH ⟨jzh rfl rfl rfl rfl rfl rfl,jz6⟩ (by rfl)) (by omega)
         case hop=>
          intro l a i h hi hne;obtain⟨o,q1,q2,q3,q4,q5⟩:=jzl (b:=b) ⟨rfl,jys _ rfl rfl rfl rfl (by rfl),jys _ rfl rfl rfl rfl (by rfl),jys _ rfl rfl rfl rfl (by rfl),jys _ rfl rfl rfl rfl (by rfl),jys _ rfl rfl rfl rfl (by rfl),jys _ rfl rfl rfl rfl (by rfl),jys _ rfl rfl rfl rfl (by rfl),jys _ rfl rfl rfl rfl (by rfl),jys _ rfl rfl rfl rfl (by rfl),jys _ rfl rfl rfl rfl (by rfl),jys _ rfl rfl rfl rfl (by rfl),jys _ rfl rfl rfl rfl (by rfl),jys _ rfl rfl rfl rfl (by rfl),jys _ rfl rfl rfl rfl (by rfl)⟩ h.1 hX hY hE hi hne;refine⟨o,_,q1,q3,q4,q5,?_,?_⟩
          ·rw[q2];exact h.1.step (jyt hi).1
          ·rw[jyx (jyt hi).2.1,if_neg (Ne.symm hne)];exact h.2
         case hcall=>
          intro fuel t l a W2 hW2 hc h hr;have d1:a.eval (.tmp 37)=.string (X++ZZB):=h.1.done 1 (by omega) (by
           refine jyu (op:=.call { callee:=.value (.func 13),args:=#[.tmp 37],argTypes:=#[9] }) (ds:=[1]) ?_ hr (by simp);exact jys _ rfl rfl rfl rfl (by rfl))
          have hH:AtRel W W2:=hW2;refine Goes.step (n:=9) rfl λwy kb=>?_;replace hH:=hH.atr kb;clear kb;refine goes_call rfl rfl hbk rfl Tryz.func13 (by kernel_rfl) rfl ⟨j6,?_⟩;refine Goes.stop (λwy kb=>⟨?lawx,?md,?kd,⟨fuel,t,l,a,?hc,?le,h.1,?hr,?eq⟩,hH.atr kb,?fr⟩)
          case fr=>
           rw[show(#[.string (X++ZZB)]:Array Value)=#[a.eval (.tmp 37)] by rw[d1]];rw[enter_at #[a.eval (.tmp 37)] Tryz.func13 rfl];simp only[List.map_toArray,List.map_cons,List.map_nil];exact rfl
          case eq=>exact rfl
          case md=>rw[hb];rfl
          case kd=>rw[hb];rfl
          case hc=>exact hc
          case le=>
           have:=jzs (n:=15) (f:=λj=>l.getD j false);have hc':cnt 15 (λj=>l.getD j false)=fuel+1:=hc;omega
          case hr=>exact hr
         case hdone=>
          intro l a W2 hW2 h hl;have h3:=hl 2 (by show 2<15;omega);rw[h.2]at h3;cases h3
        case rest=>
         rintro law ⟨fuel,t,l,a,hc,hle,hI,hr,rfl⟩;intro Post S B W hPost;rw[ju rfl rfl];have hI2:WInv X Y E (l.setIfInBounds 2 true) (a.put (some (wslot 2)) (WV X Y E 2)):=hI.step (by omega);have h2:(l.setIfInBounds 2 true).getD 2 false=true:=by rw[jyx (by rw[hI.size];omega)];rfl
         have hcnt:cnt 15 (λj=>(l.setIfInBounds 2 true).getD j false)=fuel:=by
          have:=jz9 (n:=15) (i:=2) (f:=λj=>l.getD j false) (g:=λj=>(l.setIfInBounds 2 true).getD j false) (by omega) (jyt hr).2.2.1 (jyx (by rw[hI.size];omega));omega
         refine Goes.mono (jz3 (W0:=W) hbk (λl a=>WInv X Y E l a/\l.getD 2 false=true) 2 10 (λl a h=>by rw[h.1.size];rfl) (jzj (by rfl)) ?hop ?hcall ?hdone fuel t _ _ W (atRel_refl W) ⟨hI2,h2⟩ hcnt) (by omega)
         case hop=>
          intro l a i h hi hne;obtain⟨o,q1,q2,q3,q4,q5⟩:=jzl (b:=b) ⟨rfl,jys _ rfl rfl rfl rfl (by rfl),jys _ rfl rfl rfl rfl (by rfl),jys _ rfl rfl rfl rfl (by rfl),jys _ rfl rfl rfl rfl (by rfl),jys _ rfl rfl rfl rfl (by rfl),jys _ rfl rfl rfl rfl (by rfl),jys _ rfl rfl rfl rfl (by rfl),jys _ rfl rfl rfl rfl (by rfl),jys _ rfl rfl rfl rfl (by rfl),jys _ rfl rfl rfl rfl (by rfl),jys _ rfl rfl rfl rfl (by rfl),jys _ rfl rfl rfl rfl (by rfl),jys _ rfl rfl rfl rfl (by rfl),jys _ rfl rfl rfl rfl (by rfl)⟩ h.1 hX hY hE hi hne;refine⟨o,_,q1,q3,q4,q5,?_,?_⟩
          ·rw[q2];exact h.1.step (jyt hi).1
          ·rw[jyx (jyt hi).2.1,if_neg (Ne.symm hne)];exact h.2
         case hcall=>
          intro fuel t l a W2 hW2 hc h hr;have h3:=(jyt hr).2.2.1;rw[h.2]at h3;cases h3
         case hdone=>
          intro l a W2 hW2 h hl;have d14:a.eval (.tmp 2)=.bool true:=h.1.done 14 (by omega) (hl 14 (by show 14<15;omega));have hH:AtRel W W2:=hW2;refine gt hH rfl (λ_=>stepG_region_end) λwy hH=>?_;refine gt hH rfl (λ_=>stepG_ret') λwy hH=>?_;refine Goes.stop (λwy kb=>⟨rfl,.bool true,#[],?_,λe he=>by simp at he,hPost _ (hH.atr kb)⟩);subst hb;have d15:a.tmps[2]?.getD undef=.bool true:=by simpa[Act.eval]using d14
          simp[G,stepG,unwind,Frame.at,Tryz.f5,results,Tryz.results5,go_sem,Sem.runT,seen,doReturn,GStep.after,d15,h.1.defers]
theorem jyz (a:Option Addr)(n cap:Nat)(hn:(n:Int)>1048576):ToEnd (G (Frame.enter Tryz.prog 5 #[.slice a n cap] .normal) []):=by
 have e0:=j18 (P:=Tryz.prog) (args:=#[.slice a n cap]) (kind:=.normal) (T:=#[.slice a n cap,undef,undef,undef,undef,undef,undef,undef,undef,undef,undef,undef,undef,undef,undef,undef,undef,undef,undef,undef,undef,undef,undef,undef,undef,undef,undef,undef,undef,undef,undef,undef,undef,undef,undef,undef,undef,undef,undef,undef,undef,undef,undef,undef,undef,undef,undef,undef,undef,undef]) Tryz.func5 rfl (by kernel_rfl);obtain⟨b,hb⟩:∃b:Frame,b=({ fn:=5,tmps:=#[],todo:=[],defers:=[],mode:=.run,kind:=.normal,roundOf:=none }:Frame):=⟨_,rfl⟩;rw[<- hb]at e0;rw[e0];have hbk:b.kind≠.early:=by rw[hb];simp
 intro Post S B W hPost;have hH:AtRel W W:=atRel_refl W;try simp only[Tryz.f5,Option.getD_some]
 refine gt hH rfl (λ_=>stepG_seq) λwy hH=>?_;refine gs hH rfl λwy hH=>?_;rw[stepG_region];simp only[goes_go,List.size_toArray,List.length_cons,List.length_nil,Nat.reduceAdd,Nat.zero_add,List.range,List.range.loop];refine⟨j6,?_⟩;refine gs hH rfl λwy hH=>?_;refine goes_oper_k rfl rfl hbk λK hK=>?_;go_simp;refine hK _ _ ⟨λe he=>?_,?_⟩
 ·have hm:=mem_listed he;simp[go_sem,execOp,resolve,invoke,builtin,Act.eval]at hm
 clear hK K;try walk_nrm
 refine gt hH rfl (λ_=>stepG_region_end) λwy hH=>?_;refine gt hH rfl (λ_=>stepG_seq) λwy hH=>?_;refine gt hH rfl (λ_=>stepG_seq) λwy hH=>?_;refine gs hH rfl λwy hH=>?_;rw[stepG_region];simp only[goes_go,List.size_toArray,List.length_cons,List.length_nil,Nat.reduceAdd,Nat.zero_add,List.range,List.range.loop];refine⟨j6,?_⟩;refine gs hH rfl λwy hH=>?_;refine goes_oper_k rfl rfl hbk λK hK=>?_;go_simp;refine hK _ _ ⟨λe he=>?_,?_⟩
 ·have hm:=mem_listed he;simp[go_sem,execOp,resolve,invoke,builtin,Act.eval]at hm
 clear hK K;try walk_nrm
 refine gs hH rfl λwy hH=>?_;refine goes_oper_k rfl rfl hbk λK hK=>?_;go_simp;refine hK _ _ ⟨λe he=>?_,?_⟩
 ·have hm:=mem_listed he;simp[go_sem,execOp,resolve,invoke,builtin,Act.eval,Builtin.len_]at hm
 clear hK K;try walk_nrm
 refine gs hH rfl λwy hH=>?_;refine goes_oper_k rfl rfl hbk λK hK=>?_;go_simp;refine hK _ _ ⟨λe he=>?_,?_⟩
 ·have hm:=mem_listed he;simp[go_sem,execOp,resolve,invoke,builtin,Act.eval]at hm
 clear hK K;try walk_nrm
 refine gt hH rfl (λ_=>stepG_region_end) λwy hH=>?_;refine gs hH rfl λwy hH=>?_;rw[stepG_cond (t:=true) (by simp[Act.eval])];simp only[goes_go];refine⟨j6,?_⟩;simp only[if_true];refine gt hH rfl (λ_=>stepG_seq) λwy hH=>?_;refine gs hH rfl λwy hH=>?_;rw[stepG_region];simp only[goes_go,List.size_toArray,List.length_cons,List.length_nil,Nat.reduceAdd,Nat.zero_add,List.range,List.range.loop];refine⟨j6,?_⟩;refine gs hH rfl λwy hH=>?_;refine goes_oper_k rfl rfl hbk λK hK=>?_;go_simp;refine hK _ _ ⟨λe he=>?_,?_⟩
 ·have hm:=mem_listed he;simp[go_sem,execOp,resolve,invoke,builtin,Act.eval]at hm
 clear hK K;try walk_nrm
 refine gt hH rfl (λ_=>stepG_region_end) λwy hH=>?_;refine gt hH rfl (λ_=>stepG_ret') λwy hH=>?_;refine Goes.stop (λwy kb=>⟨rfl,.bool true,#[],?_,λe he=>by simp at he,hPost _ (hH.atr kb)⟩);subst hb;simp[G,stepG,unwind,Frame.at,Tryz.f5,results,Tryz.results5,go_sem,Sem.runT,seen,doReturn,GStep.after];try omega
end Go.Proofs.YtbcegllhelfijaaGreatDoor
