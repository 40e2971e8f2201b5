/-
  FnScriptWhat: whatever the arguments, the law returns true, and they read behind the call as before. No condition.
-/
import Derived.Test.YtbcegllhelfijaaGreatDoorCards
import Derived.Test.YtbcegllhelfijaaGreatDoorTie
import Derived.SevenTiedAt
import Derived.Test.YtbcegllhelfijaaGreatDoorY30
import Derived.Test.YtbcegllhelfijaaGreatDoorERFnScriptWhat
set_option linter.all false
set_option maxRecDepth 100000
set_option maxHeartbeats 8000000
namespace Go.Proofs.YtbcegllhelfijaaGreatDoor.fnScriptWhat
open Go.Proofs.Mn
open Go Go.Conc Go.ChangeShapes Go.WideShapes Go.ChangeAt Go.RowKit
open Go.ChangeMaps (open_string shut_string)
set_option linter.unusedVariables false
theorem own:ownKnob Tryz.prog.godebug=none:=by kernel_rfl
theorem laidOut:laidOutB Tryz.prog=true:=by kernel_rfl
theorem lifted (os:Os)(started:os.Started)(H:Type)(enc:TypeId×Value->H) :
  ReturnsInLeavingWide {} Tryz.checked os 5 .any ((OpenSpec.ofChange Rows.fnScriptWhatSpec).preRow enc Tryz.prog Tryz.f5 [] false Rows.fnScriptWhatRow.laid) (Rows.fnScriptWhatSpec.post enc Tryz.prog Tryz.f5 false true false false):=by
 refine j2h own started Tryz.func5
  (ChangeSpec.witness_shaped (enc:=enc) (C:=Tryz.checked) (os:=os) (X:=λw _=>laidMetH Tryz.prog Rows.fnScriptWhatRow.laid w) false (wit os) #[.slice none 0 0] 8 (ja8 os) (World.shaped_of_ZipB (by kernel_rfl) (by kernel_rfl)) (by kernel_rfl) (by kernel_rfl) (by kernel_rfl) (j6c os _)) ?_
 intro W base args ds gs before hval0 hW hL hSh;have hval:∀(j:Nat) t v,Tryz.f5.params[j]?=some t->args[j]?=some v->Value.okWide Tryz.prog W .any base t v:=hval0;have hW':=hW;obtain⟨p,q,hA0,hV,rfl,hfz,hnd⟩:=hW;have hA:DataW.TrodAll enc Tryz.prog W 0 (λ_=>true) true Tryz.f5.params.toList args.toList ds p:=hA0;rw[Tryz.params5]at hA hval;obtain⟨v0,vs0,d0,ds0,p0,q0,hargs,rfl,rfl,h0,r0⟩:=trodAll_cons hA;obtain⟨rfl,rfl,rfl⟩:=trodAll_nil r0;obtain rfl:args=#[v0]:=by cases args;simp_all
 obtain⟨g0,rfl⟩:∃g,gs=[g]:=by
  cases gs with
  | nil=>exact hV.elim
  | cons g gs2=>cases gs2 with
   | nil=>exact⟨g,rfl⟩
   | cons g2 gs3=>obtain⟨_,_,_,_,_,_,_,_,_,_,h2,_⟩:=hV;exact h2.elim
 have lt0:∀x∈p0,x.block<W.heap.size:=by obtain⟨m,hm⟩:=h0;exact DataW.trod_lt m _ _ _ hm
 have w0:=j3g .any base rfl (hval 0 22 v0 rfl rfl) h0;obtain⟨av,ap,hs⟩:=j4l (text:=[116,104,101,32,110,111,100,101,32,99,97,110,32,110,111,116,32,116,97,107,101,32,116,104,101,32,117,112,100,97,116,101]) hL hSh (by kernel_rfl) (by kernel_rfl);obtain⟨a0,len0,cap0,z0,rfl,w1⟩:=w0;refine jz0 a0 len0 cap0 hs w1.le.1 w1.le.2 w1.bytes _ λw2 hk=>?_
 ·show Rows.fnScriptWhatSpec.post enc Tryz.prog Tryz.f5 false true false false W #[.slice a0 len0 cap0] (.bool true) (w2.on W.tape W.drawn);have bel:Below W.heap.size W (w2.on W.tape W.drawn):=⟨hk.os,rfl,hk.output,hk.size,hk.block⟩;exact⟨_,_,_,[],_,_,hW',trodAll_mk1 (shut_bool Tryz.underlying4 _),(trodAll_cons_mk (Below.trod laidOut (by kernel_rfl) (of_decide_eq_true (by kernel_rfl)) h0 bel lt0) trodAll_mk0),Below.trodVars laidOut bel (by kernel_rfl) hV,bel.frame _,λh=>by cases h⟩
theorem over:Rows.fnScriptWhatRow.holds Tryz.pinned (OpenSpec.ofChange Rows.fnScriptWhatSpec):=
 OpenClaim.holds_of_wide_leaving 5 Tryz.f5 rfl rfl rfl rfl rfl rfl rfl ⟨rfl,rfl,rfl,rfl,rfl⟩ rfl rfl rfl rfl rfl (by kernel_rfl) Tryz.func5 (by kernel_rfl)
  (of_decide_eq_true (by kernel_rfl)) (by unfold Func.isWrapper;first|(rw[if_pos (by decide +kernel)];kernel_rfl)|(rw[if_neg (by decide +kernel)];exact⟨rfl,rfl⟩))
  (λos started H enc _=>lifted os started H enc)
theorem tested:∀f fn,Tryz.pinned.checked.prog.funcNamed Rows.fnScriptWhatRow.func=some f->Tryz.pinned.checked.prog.funcs[f]?=some fn->true=Tryz.pinned.checked.prog.looks []/\∀(j:Nat) t,fn.params[j]?=some t->Tryz.pinned.checked.prog.wantsStandIn t=false:=λf fn hf hfn=>by
 obtain rfl:f=5:=Option.some.inj ((show Tryz.prog.funcNamed "loop.example/chainfiles/laws.FnScriptWhat"=some 5 by kernel_rfl).symm.trans hf) |>.symm;obtain rfl:fn=Tryz.f5:=(Option.some.inj (Tryz.func5.symm.trans hfn)).symm;exact⟨by kernel_rfl,λj t ht=>by
  rw[Tryz.params5]at ht;have hm:t∈[22]:=by simpa using Array.mem_of_getElem? ht
  have hall:([22].all λu=>!Tryz.prog.wantsStandIn u)=true:=by kernel_rfl
  exact(show Tryz.prog.wantsStandIn t=false by simpa using List.all_eq_true.1 hall t hm)⟩
theorem proved:Rows.FnScriptWhatCardSaid:=by
 have h6:Claim7.isSixth { stood:={ row:=Rows.fnScriptWhatRow,standIns:=[],harness:=(true, "c179470f3cb9a24b0b63c17af89fb1aafcbbf3bddfe2cdda2f3dae238af161a7"),looks:=true },kinds:=[] }=false:=by rfl
 refine⟨Claim7.tied_new_at .later [.data,.data,.data,.data,.sentinel,.pinned] true (Claim7.new_of_sixth over (true, "c179470f3cb9a24b0b63c17af89fb1aafcbbf3bddfe2cdda2f3dae238af161a7") true rfl ⟨rfl,rfl⟩ (by kernel_rfl) h6 tested) (by kernel_rfl),λD hD=>(by cases hD),fnScriptWhat_row_tie,(λh=>by cases h),(by kernel_rfl)⟩
#print axioms proved
end Go.Proofs.YtbcegllhelfijaaGreatDoor.fnScriptWhat
