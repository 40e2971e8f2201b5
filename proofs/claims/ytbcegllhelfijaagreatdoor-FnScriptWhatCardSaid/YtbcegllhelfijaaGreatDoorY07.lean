/-
  A part of the proof.
-/
import Derived.Conc.CrowdRun
import Derived.Conc.CrowdComm
import Derived.Conc.WgGenN3
import Derived.Conc.TokenWalk
import Derived.Test.YtbcegllhelfijaaGreatDoorY06
set_option linter.all false
set_option maxRecDepth 100000
set_option maxHeartbeats 8000000
namespace Go.Proofs.Mn
open Go Go.Conc
open Go.ConcN (WSit RW WgLive DWs AtR0 WD)
open Go.ConcR (KK wgBlock WgAt stA smA rd wr mk Payload DC0 Bk)
variable [Payload]
def ownG (N s r k:Nat)(l:Loc):Prop:=(k=s/\((∃a,l=.cell a/\a.block=N+6)\/l=.obj (N+2)))\/(k=r/\∃a,l=.cell a/\(a.block=N+4\/a.block=N+5\/N+8<=a.block))
def rdG (N s r k:Nat)(l:Loc):Prop:=(k=s\/k=r)/\∃a,l=.cell a/\a.block=N+3
def shG (N:Nat)(l:Loc):Prop:=∃a,l=.cell a/\a.block=N+7
section
variable (P:Program)(ty:TypeId)(N B:Nat)
def RM (w wz:World):Prop:=WgLive ty (N+7) w->WgLive ty (N+7) wz
structure RS (w wz:World):Prop where
 tape:wz.tape=w.tape
 os:wz.os=w.os
 output:wz.output=w.output
 block:∀b,b<N+8->b≠N+2->b≠N+5->b≠N+7->wz.heap[b]?=w.heap[b]?
 live:WgLive ty (N+7) w->WgLive ty (N+7) wz
structure RR (w wz:World):Prop where
 tape:wz.tape=w.tape
 os:wz.os=w.os
 output:wz.output=w.output
 size:wz.heap.size=w.heap.size
 block:∀b,b≠N+2->b≠N+7->wz.heap[b]?=w.heap[b]?
 live:WgLive ty (N+7) w->WgLive ty (N+7) wz
def EvS (e:Event):Prop:=(∀x,(MemAct.ofEvent e).touch?=some x->∃a,x.loc=.cell a/\(a.block=N+6\/(a.block=N+3/\x.write=false)))/\e.loc≠.mark .disable/\e.loc≠.mark .enable/\(MemAct.ofEvent e).low B/\∀a,e.loc≠.mark (.release a)
def EvR (e:Event):Prop:=(∀x,(MemAct.ofEvent e).touch?=some x->∃a,x.loc=.cell a/\((a.block=N+4\/a.block=N+5\/N+8<=a.block)\/(a.block=N+3/\x.write=false)))/\e.loc≠.mark .disable/\e.loc≠.mark .enable/\(MemAct.ofEvent e).low B/\∀a,e.loc≠.mark (.release a)
def EvM (e:Event):Prop:=(∀x,(MemAct.ofEvent e).touch?=some x->shG N x.loc/\x.kind≠.plain)/\e.loc≠.mark .disable/\e.loc≠.mark .enable/\(MemAct.ofEvent e).low B/\∀a,e.loc≠.mark (.release a)
def DM (w w':World)(es:Array Event):Prop:=w'=w/\∀e∈es,EvM N B e
def DS (w w':World)(es:Array Event):Prop:=w'=w/\∀e∈es,EvS N B e
structure DR (w w':World)(es:Array Event):Prop where
 tape:w'.tape=w.tape
 os:w'.os=w.os
 output:w'.output=w.output
 size:w.heap.size<=w'.heap.size
 block:∀b,b<N+8->b≠N+5->w'.heap[b]?=w.heap[b]?
 evs:∀e∈es,EvR N B e
def ToDone (k:Nat)(val:Value)(m:Nat)(g:Goroutine)(w:World):Prop:=
 Goes P false (RW ty (N+7) (N+6) 2 0 (k-1)) DC0 (AtR0 P ty (N+7) (N+6) 2 0 k val) m g w
def AtClose (val:Value)(g:Goroutine)(w:World):Prop:=
 g.status=.running/\mayWake P g=true/\∀k,w.heap[N+2]?=some (.chan 0 #[] false k k false)->∃g',g'.status=.running/\stepG P false g w=.go g' (w.setChan (N+2) 0 #[] true k k false) (closeEvents (N+2)) /\
  ∃m,ToDone P ty N 1 val m g' (w.setChan (N+2) 0 #[] true k k false)
def ToClose (val:Value)(m:Nat)(g:Goroutine)(w:World):Prop:=Goes P false (RS ty N) (DS N B) (AtClose P ty N val) m g w
def AtSend (v val:Value)(g:Goroutine)(w:World):Prop:=
 g.status=.running/\g.offers=none/\∃z es,stepG P false g w=.comm g #[scase (N+2) v z] true .send w es/\(∀e∈es,EvS N B e)/\∃m,ToClose P ty N B val m (Go.Conc.served g undef) w
def ToSend (v val:Value)(m:Nat)(g:Goroutine)(w:World):Prop:=Goes P false (RS ty N) (DS N B) (AtSend P ty N B v val) m g w
def AtRecv2 (Fin:World->Prop)(val:Value)(g:Goroutine)(w:World):Prop:=
 g.status=.running/\g.offers=none/\Fin w/\∃z es,stepG P false g w=.comm g #[rcase (N+2) z] true (.recv true) w es/\(∀e∈es,EvR N B e)/\∃m,ToDone P ty N 2 val m (Go.Conc.served g (recvd true z false)) w
def ToRecv2 (Fin:World->Prop)(val:Value)(m:Nat)(g:Goroutine)(w:World):Prop:=Goes P false (RR ty N) (DR N B) (AtRecv2 P ty N B Fin val) m g w
def AtRecv (Fin:World->Prop)(v val:Value)(g:Goroutine)(w:World):Prop:=
 g.status=.running/\g.offers=none/\∃z es,stepG P false g w=.comm g #[rcase (N+2) z] true (.recv true) w es/\(∀e∈es,EvR N B e)/\∃m,ToRecv2 P ty N B Fin val m (Go.Conc.served g (recvd true v true)) w
def ToRecv (Fin:World->Prop)(v val:Value)(m:Nat)(g:Goroutine)(w:World):Prop:=Goes P false (RR ty N) (DR N B) (AtRecv P ty N B Fin v val) m g w
section
variable (AnchW Out:Goroutine->World->Prop)(Born1 Born2:Goroutine->World->Prop)
def MAcq (g:Goroutine)(w:World):Prop:=
 g.status=.running/\∃g',stepG P true g w=.go g' w #[mk (.acquire (stA (N+7)))]/\∃m,(Goes P true (RM ty N) (DM N B)) Out m g' w
def MKe (g:Goroutine)(w:World):Prop:=
 g.status=.running/\∃g',stepG P true g w=.go g' w #[mk .enable]/\∃m,(Goes P true (RM ty N) (DM N B)) (MAcq P ty N B Out) m g' w
def MW4 (g:Goroutine)(w:World):Prop:=
 g.status=.running/\(WgAt ty (N+7) w 0 0->∃g',stepG P true g w=.go g' w #[rd (stA (N+7))]/\∃m,(Goes P true (RM ty N) (DM N B)) (MKe P ty N B Out) m g' w)
def MW3 (g:Goroutine)(w:World):Prop:=
 g.status=.running/\g.offers=none /\
  ((∃st,WgAt ty (N+7) w st 0)->stepG P true g w=.go { g with status:=.blocked } w #[]) /\
  (WgAt ty (N+7) w 0 1->∃g',stepG P true g w=.go g' (w.setCell (smA (N+7)) (.int .u32 0)) (semEvents (smA (N+7)))/\∃m,(Goes P true (RM ty N) (DM N B)) (MW4 P ty N B Out) m g' (w.setCell (smA (N+7)) (.int .u32 0)))
def MW2 (vs:Nat)(g:Goroutine)(w:World):Prop:=
 g.status=.running/\∀v:Nat,v<2147483648->WgAt ty (N+7) w (v*KK) 0 ->
  (v=vs->∃g',stepG P true g w=.go g' (w.setCell (stA (N+7)) (.int .u64 (v*KK+1))) #[rd (stA (N+7)),wr (stA (N+7))]/\∃m,(Goes P true (RM ty N) (DM N B)) (MW3 P ty N B Out) m g' (w.setCell (stA (N+7)) (.int .u64 (v*KK+1)))) /\
  (v≠vs->∃g',stepG P true g w=.go g' w #[rd (stA (N+7))]/\∃m,(Goes P true (RM ty N) (DM N B)) AnchW m g' w)
def MW1 (g:Goroutine)(w:World):Prop:=
 g.status=.running/\∀v:Nat,v<2147483648->WgAt ty (N+7) w (v*KK) 0->∃g',stepG P true g w=.go g' w #[rd (stA (N+7))] /\
  (v=0->∃m,(Goes P true (RM ty N) (DM N B)) (MKe P ty N B Out) m g' w)/\(v≠0->∃m,(Goes P true (RM ty N) (DM N B)) (MW2 P ty N B AnchW Out v) m g' w)
def MKd (g:Goroutine)(w:World):Prop:=
 g.status=.running/\∃g',stepG P true g w=.go g' w #[mk .disable]/\∃m,(Goes P true (RM ty N) (DM N B)) AnchW m g' w
def MGo2 (g:Goroutine)(w:World):Prop:=
 g.status=.running/\∃g' child,stepG P true g w=.spawn g' child w #[]/\Born2 child w/\∃m,(Goes P true (RM ty N) (DM N B)) (MKd P ty N B AnchW) m g' w
def MGo1 (g:Goroutine)(w:World):Prop:=
 g.status=.running/\∃g' child,stepG P true g w=.spawn g' child w #[]/\Born1 child w/\∃m,(Goes P true (RM ty N) (DM N B)) (MGo2 P ty N B AnchW Born2) m g' w
def MKe0 (g:Goroutine)(w:World):Prop:=
 g.status=.running/\∃g',stepG P true g w=.go g' w #[mk .enable]/\∃m,(Goes P true (RM ty N) (DM N B)) (MGo1 P ty N B AnchW Born1 Born2) m g' w
def MA0 (g:Goroutine)(w:World):Prop:=
 g.status=.running/\(WgAt ty (N+7) w 0 0->∃g',stepG P true g w=.go g' (w.setCell (stA (N+7)) (.int .u64 (2*KK))) #[rd (stA (N+7)),wr (stA (N+7))] /\
   ∃m,(Goes P true (RM ty N) (DM N B)) (MKe0 P ty N B AnchW Born1 Born2) m g' (w.setCell (stA (N+7)) (.int .u64 (2*KK))))
def MKd0 (g:Goroutine)(w:World):Prop:=
 g.status=.running/\∃g',stepG P true g w=.go g' w #[mk .disable]/\∃m,(Goes P true (RM ty N) (DM N B)) (MA0 P ty N B AnchW Born1 Born2) m g' w
end
end
section
variable {ty:TypeId}{N:Nat}{w wz wv:World}
theorem RM.trans':∀a b c,RM ty N a b->RM ty N b c->RM ty N a c:=λ_ _ _ h k=>k ∘ h
theorem RS.trans':∀a b c,RS ty N a b->RS ty N b c->RS ty N a c:=λ_ _ _ h k=>
 ⟨k.tape.trans h.tape,k.os.trans h.os,k.output.trans h.output,λb h1 h2 h3 h4=>(k.block b h1 h2 h3 h4).trans (h.block b h1 h2 h3 h4),k.live ∘ h.live⟩
theorem RR.trans':∀a b c,RR ty N a b->RR ty N b c->RR ty N a c:=λ_ _ _ h k=>
 ⟨k.tape.trans h.tape,k.os.trans h.os,k.output.trans h.output,k.size.trans h.size,λb h1 h2=>(k.block b h1 h2).trans (h.block b h1 h2),k.live ∘ h.live⟩
theorem RM.refl' (w:World):RM ty N w w:=id
theorem RS.refl' (w:World):RS ty N w w:=⟨rfl,rfl,rfl,λ_ _ _ _ _=>rfl,id⟩
theorem RR.refl' (w:World):RR ty N w w:=⟨rfl,rfl,rfl,rfl,λ_ _ _=>rfl,id⟩
theorem RM.at' (w:World)(d:Nat):RM ty N w (w.at d):=id
theorem RS.at' (w:World)(d:Nat):RS ty N w (w.at d):=⟨rfl,rfl,rfl,λ_ _ _ _ _=>rfl,id⟩
theorem RR.at' (w:World)(d:Nat):RR ty N w (w.at d):=⟨rfl,rfl,rfl,rfl,λ_ _ _=>rfl,id⟩
end
end Go.Proofs.Mn
namespace Go.Proofs.Mn
open Go Go.Conc
open Go.ConcN (WSit RW WgLive DWs AtR0 WD CTag Mode Vc cnt upd Ssum Fsum phi isOpen isW3 isFin)
open Go.ConcR (KK wgBlock WgAt stA smA rd wr mk Payload DC0 Bk)
variable [Payload]
inductive MTag where
 | kd0|a0|ke0|go1|go2|kd|anch|w1|w2 (vs:Nat)|w3|blk|w4|ke|acq|out
def MTag.c:MTag->CTag
 | .kd0|.a0|.ke0|.go1|.go2|.kd=>.kd
 | .anch=>.anch
 | .w1=>.w1
 | .w2 vs=>.w2 vs
 | .w3=>.w3
 | .blk=>.blk
 | .w4=>.w4
 | .ke=>.ke
 | .acq=>.acq
 | .out=>.ret
def MTag.rank (v:Nat):MTag->Nat
 | .kd0=>105
 | .a0=>104
 | .ke0=>103
 | .go1=>102
 | .go2=>60
 | .kd=>30
 | .anch=>8*v+6
 | .w1=>8*v+5
 | .w2 vs=>8*vs+4
 | .w3=>5
 | .blk=>5
 | .w4=>4
 | .ke=>3
 | .acq=>2
 | .out=>1
section
variable (P:Program)(ty:TypeId)(N B:Nat)(AnchW Out:Goroutine->World->Prop)(Born1 Born2:Goroutine->World->Prop)
inductive MSit:MTag->Nat->Nat->Goroutine->World->Prop
 | kd0 {m:Nat} {g:Goroutine} {w:World}:(Goes P true (RM ty N) (DM N B)) (MKd0 P ty N B AnchW Born1 Born2) m g w->MSit .kd0 m 0 g w
 | a0 {m:Nat} {g:Goroutine} {w:World}:(Goes P true (RM ty N) (DM N B)) (MA0 P ty N B AnchW Born1 Born2) m g w->MSit .a0 m 1 g w
 | ke0 {m:Nat} {g:Goroutine} {w:World}:(Goes P true (RM ty N) (DM N B)) (MKe0 P ty N B AnchW Born1 Born2) m g w->MSit .ke0 m 1 g w
 | go1 {m:Nat} {g:Goroutine} {w:World}:(Goes P true (RM ty N) (DM N B)) (MGo1 P ty N B AnchW Born1 Born2) m g w->MSit .go1 m 0 g w
 | go2 {m:Nat} {g:Goroutine} {w:World}:(Goes P true (RM ty N) (DM N B)) (MGo2 P ty N B AnchW Born2) m g w->MSit .go2 m 0 g w
 | kd {m:Nat} {g:Goroutine} {w:World}:(Goes P true (RM ty N) (DM N B)) (MKd P ty N B AnchW) m g w->MSit .kd m 0 g w
 | anch {m:Nat} {g:Goroutine} {w:World}:(Goes P true (RM ty N) (DM N B)) AnchW m g w->MSit .anch m 1 g w
 | w1 {m:Nat} {g:Goroutine} {w:World}:(Goes P true (RM ty N) (DM N B)) (MW1 P ty N B AnchW Out) m g w->MSit .w1 m 1 g w
 | w2 {vs m:Nat} {g:Goroutine} {w:World}:(Goes P true (RM ty N) (DM N B)) (MW2 P ty N B AnchW Out vs) m g w->MSit (.w2 vs) m 1 g w
 | w3 {m:Nat} {g:Goroutine} {w:World}:(Goes P true (RM ty N) (DM N B)) (MW3 P ty N B Out) m g w->MSit .w3 (m+1) 1 g w
 | blk {g:Goroutine} {w:World}:(∀wz,RM ty N w wz->MW3 P ty N B Out g wz)->MSit .blk 0 1 { g with status:=.blocked } w
 | w4 {m:Nat} {g:Goroutine} {w:World}:(Goes P true (RM ty N) (DM N B)) (MW4 P ty N B Out) m g w->MSit .w4 m 1 g w
 | ke {m:Nat} {g:Goroutine} {w:World}:(Goes P true (RM ty N) (DM N B)) (MKe P ty N B Out) m g w->MSit .ke m 1 g w
 | acq {m:Nat} {g:Goroutine} {w:World}:(Goes P true (RM ty N) (DM N B)) (MAcq P ty N B Out) m g w->MSit .acq m 0 g w
 | out {m:Nat} {g:Goroutine} {w:World}:(Goes P true (RM ty N) (DM N B)) Out m g w->MSit .out m 0 g w
end
section
variable {P:Program}{ty:TypeId}{N B:Nat}{AnchW Out:Goroutine->World->Prop}{Born1 Born2:Goroutine->World->Prop}{tag:MTag}{f d:Nat}{a:Goroutine}{w w':World}
theorem MSit.rely (h:(MSit P ty N B AnchW Out Born1 Born2) tag f d a w)(hr:RM ty N w w'):(MSit P ty N B AnchW Out Born1 Born2) tag f d a w':=by
 cases h with
 | kd0 h=>exact .kd0 (Goes.rely RM.trans' h hr)
 | a0 h=>exact .a0 (Goes.rely RM.trans' h hr)
 | ke0 h=>exact .ke0 (Goes.rely RM.trans' h hr)
 | go1 h=>exact .go1 (Goes.rely RM.trans' h hr)
 | go2 h=>exact .go2 (Goes.rely RM.trans' h hr)
 | kd h=>exact .kd (Goes.rely RM.trans' h hr)
 | anch h=>exact .anch (Goes.rely RM.trans' h hr)
 | w1 h=>exact .w1 (Goes.rely RM.trans' h hr)
 | w2 h=>exact .w2 (Goes.rely RM.trans' h hr)
 | w3 h=>exact .w3 (Goes.rely RM.trans' h hr)
 | blk h=>exact .blk (λwv kz=>h wv (RM.trans' _ _ _ hr kz))
 | w4 h=>exact .w4 (Goes.rely RM.trans' h hr)
 | ke h=>exact .ke (Goes.rely RM.trans' h hr)
 | acq h=>exact .acq (Goes.rely RM.trans' h hr)
 | out h=>exact .out (Goes.rely RM.trans' h hr)
theorem MSit.status (hAr:∀g w,AnchW g w->g.status=.running)(hOr:∀g w,Out g w->g.status=.running)(h:(MSit P ty N B AnchW Out Born1 Born2) tag f d a w):(a.status=.running/\tag≠.blk)\/(a.status=.blocked/\tag=.blk):=by
 cases h with
 | blk h=>exact .inr ⟨rfl,rfl⟩
 | anch h=>exact .inl ⟨Goes.running hAr w (RM.refl' w) h,by simp⟩
 | out h=>exact .inl ⟨Goes.running hOr w (RM.refl' w) h,by simp⟩
 | kd0 h=>exact .inl ⟨Goes.running (λ_ _ x=>x.1) w (RM.refl' w) h,by simp⟩
 | a0 h=>exact .inl ⟨Goes.running (λ_ _ x=>x.1) w (RM.refl' w) h,by simp⟩
 | ke0 h=>exact .inl ⟨Goes.running (λ_ _ x=>x.1) w (RM.refl' w) h,by simp⟩
 | go1 h=>exact .inl ⟨Goes.running (λ_ _ x=>x.1) w (RM.refl' w) h,by simp⟩
 | go2 h=>exact .inl ⟨Goes.running (λ_ _ x=>x.1) w (RM.refl' w) h,by simp⟩
 | kd h=>exact .inl ⟨Goes.running (λ_ _ x=>x.1) w (RM.refl' w) h,by simp⟩
 | w1 h=>exact .inl ⟨Goes.running (λ_ _ x=>x.1) w (RM.refl' w) h,by simp⟩
 | w2 h=>exact .inl ⟨Goes.running (λ_ _ x=>x.1) w (RM.refl' w) h,by simp⟩
 | w3 h=>exact .inl ⟨Goes.running (λ_ _ x=>x.1) w (RM.refl' w) h,by simp⟩
 | w4 h=>exact .inl ⟨Goes.running (λ_ _ x=>x.1) w (RM.refl' w) h,by simp⟩
 | ke h=>exact .inl ⟨Goes.running (λ_ _ x=>x.1) w (RM.refl' w) h,by simp⟩
 | acq h=>exact .inl ⟨Goes.running (λ_ _ x=>x.1) w (RM.refl' w) h,by simp⟩
theorem MSit.wokenBy (hAr:∀g w,AnchW g w->g.status=.running)(hOr:∀g w,Out g w->g.status=.running)(h:(MSit P ty N B AnchW Out Born1 Born2) tag f d a w)(hr:RM ty N w w')(g g':Goroutine) :
  ∃tag' f',(MSit P ty N B AnchW Out Born1 Born2) tag' f' d (woken P g g' w' a) w'/\f'<=f+1/\(tag'=tag\/(tag=.blk/\tag'=.w3))/\(mayWake P g=true->g'.status=.running->tag'≠.blk):=by
 have h':=h.rely hr;unfold Go.Conc.woken;split
 ·rcases h'.status hAr hOr with⟨hs,hne⟩|⟨_,rfl⟩
  ·exact⟨tag,f,by rw[again_running _ (.inl hs)];exact h',by omega,.inl rfl,λ_ _=>hne⟩
  ·cases h' with
   | blk hb=>
    rename_i g0
    have h3:=hb w' (RM.refl' w');exact⟨.w3,0+1,by rw[Go.ConcR.again_blocked h3.1 h3.2.1];exact .w3 (Goes.stop hb),by omega,.inr ⟨rfl,rfl⟩,λ_ _=>by simp⟩
 ·rename_i hc
  exact⟨tag,f,h',by omega,.inl rfl,λh1 h2=>absurd (by simp[h1,h2]) hc⟩
end
end Go.Proofs.Mn
namespace Go.Proofs.Mn
open Go Go.Conc
open Go.ConcN (WSit RW WgLive DWs AtR0 WD CTag Mode Vc cnt upd Ssum Fsum phi isOpen isW3 isFin RelBy sumTo)
open Go.ConcR (KK wgBlock WgAt stA smA rd wr mk Payload DC0 Bk)
variable [Payload]
inductive PTag where
 | none|sa (ms:Nat)|sb|ca (ms mr:Nat)|cb (mr:Nat)|cc (ms:Nat)|da (ms mr:Nat)|db (ms:Nat)|ea (d:WD) (mr:Nat)|fa (d e:WD)
def PTag.kids:PTag->Nat
 | .none=>0
 | .sa _|.sb=>1
 | _=>2
def PTag.rank:PTag->Nat
 | .none=>0
 | .sa _=>40
 | .sb=>39
 | .ca _ _=>60
 | .cb _=>59
 | .cc _=>59
 | .da _ _=>50
 | .db _=>49
 | .ea d _=>d.stage+20
 | .fa d e=>d.stage+e.stage
def PTag.fuel:PTag->Nat
 | .none|.sb=>0
 | .sa m|.cb m|.cc m|.db m=>m
 | .ca m n|.da m n=>m+n
 | .ea d m=>d.fuel+m
 | .fa d e=>d.fuel+e.fuel
def PTag.d:PTag->Nat->WD
 | .ea d _,0=>d
 | .fa d _,0=>d
 | .fa _ e,1=>e
 | _,_=>⟨7,0,0⟩
def PTag.ds:PTag->Nat
 | .ea d _=>d.deaf
 | .fa d _=>d.deaf
 | _=>0
def PTag.dr:PTag->Nat
 | .fa _ e=>e.deaf
 | _=>0
def PTag.chan:PTag->Obj
 | .da _ _|.db _=>.chan 0 #[] false 1 1 false
 | .ea _ _|.fa _ _=>.chan 0 #[] true 1 1 false
 | _=>.chan 0 #[] false 0 0 false
def PTag.started (n0:Nat):PTag->Nat->Prop
 | .none,_=>False
 | .sa _,k|.sb,k=>k=n0
 | _,k=>k=n0\/k=n0+1
def fits:MTag->PTag->Prop
 | .kd0,p|.a0,p|.ke0,p|.go1,p=>p=.none
 | .go2,p=>p.kids=1
 | _,p=>p.kids=2
structure Kp (ty:TypeId)(N:Nat)(w0 w:World):Prop where
 tape:w.tape=w0.tape
 os:w.os=w0.os
 output:w.output=w0.output
 size:w.heap.size=w0.heap.size
 block:∀b,b≠N+2->b≠N+7->w.heap[b]?=w0.heap[b]?
 live:WgLive ty (N+7) w
structure Keep (N:Nat)(w0 w:World):Prop where
 tape:w.tape=w0.tape
 os:w.os=w0.os
 output:w.output=w0.output
 size:w0.heap.size<=w.heap.size
 block:∀b,b<N+8->b≠N+2->b≠N+5->b≠N+7->w.heap[b]?=w0.heap[b]?
section
variable (P:Program)(ty:TypeId)(N B:Nat)(w0:World)(Fin:World->Prop)(v vs vr:Value)
inductive R2:Nat->Goroutine->World->Prop
 | walk {m:Nat} {g:Goroutine} {w:World}:ToRecv2 P ty N B Fin vr m g w->R2 m g w
 | again {g:Goroutine} {w:World} {z:Value}:(∀wz,RR ty N w wz->AtRecv2 P ty N B Fin vr g wz)->R2 0 { parked g #[rcase (N+2) z] (.recv true)with status:=.running } w
inductive DSit (k:Nat)(val:Value):Nat->Nat->Nat->Goroutine->World->Prop
 | r0 {m:Nat} {g:Goroutine} {w:World}:ToDone P ty N k val m g w->DSit k val 7 m 0 g w
 | rest {s m d:Nat} {g:Goroutine} {w:World}:s<=6->WSit P ty (N+7) (N+6) 2 (λ_ _=>False) (λ_ _=>False) 0 k val s m d g w->DSit k val s m d g w
def WS (d:WD)(g:Goroutine)(w:World):Prop:=DSit P ty N 1 vs d.stage d.fuel d.deaf g w
def WR (d:WD)(g:Goroutine)(w:World):Prop:=DSit P ty N 2 vr d.stage d.fuel d.deaf g w
inductive PAt:PTag->Option Goroutine->Option Goroutine->World->Prop
 | none {w:World}:Kp ty N w0 w->PAt .none .none .none w
 | sa {m:Nat} {g:Goroutine} {w:World}:Kp ty N w0 w->ToSend P ty N B v vs m g w->PAt (.sa m) (some g) .none w
 | sb {m:Nat} {g:Goroutine} {w:World} {z:Value}:Kp ty N w0 w->ToClose P ty N B vs m (Go.Conc.served g undef) w->PAt .sb (some (parked g #[scase (N+2) v z] .send)) .none w
 | ca {m n:Nat} {g h:Goroutine} {w:World}:ToSend P ty N B v vs m g w->ToRecv P ty N B Fin v vr n h w->PAt (.ca m n) (some g) (some h) w
 | cb {m n:Nat} {g h:Goroutine} {w:World} {z:Value}:ToClose P ty N B vs m (Go.Conc.served g undef) w->ToRecv P ty N B Fin v vr n h w->PAt (.cb n) (some (parked g #[scase (N+2) v z] .send)) (some h) w
 | cc {m n:Nat} {g h:Goroutine} {w:World} {z:Value}:ToSend P ty N B v vs m g w->ToRecv2 P ty N B Fin vr n (Go.Conc.served h (recvd true v true)) w->PAt (.cc m) (some g) (some (parked h #[rcase (N+2) z] (.recv true))) w
 | da {m n:Nat} {g h:Goroutine} {w:World}:ToClose P ty N B vs m g w->ToRecv2 P ty N B Fin vr n h w->PAt (.da m n) (some g) (some h) w
 | db {m:Nat} {g h:Goroutine} {w:World} {z:Value}:ToClose P ty N B vs m g w->(∀wz,RR ty N w wz->AtRecv2 P ty N B Fin vr h wz)->PAt (.db m) (some g) (some (parked h #[rcase (N+2) z] (.recv true))) w
 | ea {d:WD} {n:Nat} {g h:Goroutine} {w:World}:WS P ty N vs d g w->R2 P ty N B Fin vr n h w->PAt (.ea d n) (some g) (some h) w
 | fa {d e:WD} {g h:Goroutine} {w:World}:WS P ty N vs d g w->WR P ty N vr e h w->Fin w->PAt (.fa d e) (some g) (some h) w
variable (AnchW Out:Goroutine->World->Prop)
def Born1 (g:Goroutine)(w:World):Prop:=Kp ty N w0 w->∃m,ToSend P ty N B v vs m g w
def Born2 (g:Goroutine)(w:World):Prop:=Kp ty N w0 w->∃m,ToRecv P ty N B Fin v vr m g w
def Acq2 (n0 T0:Nat)(t:Trace):Prop:=
 ∃q,t.act? q=some (.mark (.acquire (stA (N+7))))/\t.g? q=some 0/\t.heard q/\∀k,k=n0\/k=n0+1->∃r,RelBy (stA (N+7)) t k r/\T0<=r/\r<q
def Rl (a:Addr)(T0:Nat)(t:Trace)(k s:Nat):Prop:=s<=6->∃r,RelBy a t k r/\T0<=r
structure Co (Shun:Loc->Prop)(n0 T0:Nat)(tag:MTag)(f d0:Nat)(p:PTag)(q:Nat->Nat)(gs:Array Goroutine)(w:World)(t:Trace)(st sm:Int):Prop where
 fit:fits tag p
 size:gs.size=n0+p.kids
 pos:0<n0
 m0:∃a,gs[0]?=some a/\MSit P ty N B AnchW Out (Born1 P ty N B w0 v vs) (Born2 P ty N B w0 Fin v vr) tag f d0 a w
 pr:PAt P ty N B w0 Fin v vs vr p gs[n0]? gs[n0+1]? w
 old:∀i g,0<i->i<n0->gs[i]?=some g->QuitsD P (q i) (Deaf t i) g
 above:∀j,gs.size<=j->Deaf t j=0
 keep:Keep N w0 w
 chan:w.heap[N+2]?=some p.chan
 wg:WgAt ty (N+7) w st sm
 mode:(tag=.kd0\/tag=.a0->st=0/\sm=0)/\(tag≠.kd0->tag≠.a0->Go.ConcN.Mode 2 p.d tag.c st sm)
 pt:PT (stA (N+7)) Shun (shG N) (ownG N n0 (n0+1)) (rdG N n0 (n0+1)) B T0 (p.started n0) t
 deaf0:Deaf t 0=d0
 deafS:Deaf t n0=p.ds
 deafR:Deaf t (n0+1)=p.dr
 relS:Rl (stA (N+7)) T0 t n0 (p.d 0).stage
 relR:Rl (stA (N+7)) T0 t (n0+1) (p.d 1).stage
 acq:tag=.out->Acq2 N n0 T0 t
def PInv (Shun:Loc->Prop)(n0 T0:Nat)(μ:Nat×Nat)(m:Machine)(t:Trace):Prop:=
 ∃(gs:Array Goroutine) (w:World) (sl:Option (Nat×Nat)) (tag:MTag) (f d0:Nat) (p:PTag) (q:Nat->Nat) (st sm:Int),
  m=crowd gs w sl/\Co P ty N B w0 Fin v vs vr AnchW Out Shun n0 T0 tag f d0 p q gs w t st sm/\μ=(tag.rank (Vc 2 p.d)+p.rank,f+2*(p.fuel+sumTo n0 q))
end
end Go.Proofs.Mn
namespace Go.Proofs.Mn
open Go Go.Conc
open Go.ConcN (WSit RW WgLive DWs AtR0 WD CTag Mode Vc cnt upd Ssum Fsum phi isOpen isW3 isFin RelBy sumTo)
open Go.ConcR (KK wgBlock WgAt stA smA rd wr mk Payload DC0 Bk)
variable [Payload]
section
variable {P:Program}{ty:TypeId}{N B:Nat}{w0:World}{Fin:World->Prop}{v vs vr:Value}{p:PTag}{a b:Option Goroutine}{w w':World}{k:Nat}
theorem Kp.turn (h:Kp ty N w0 w)(hA:Aside (N+7) w w')(hl:WgLive ty (N+7) w'):Kp ty N w0 w':=
 ⟨hA.tape.trans h.tape,hA.os.trans h.os,hA.output.trans h.output,hA.size.trans h.size,λb h1 h2=>(hA.block b h2).trans (h.block b h1 h2),hl⟩
theorem RS.turn (hA:Aside (N+7) w w')(hl:WgLive ty (N+7) w'):RS ty N w w':=
 ⟨hA.tape,hA.os,hA.output,λb _ _ _ h=>hA.block b h,λ_=>hl⟩
theorem RR.turn (hA:Aside (N+7) w w')(hl:WgLive ty (N+7) w'):RR ty N w w':=
 ⟨hA.tape,hA.os,hA.output,hA.size,λb _ h=>hA.block b h,λ_=>hl⟩
theorem R2.rely {m:Nat}{g:Goroutine}(h:R2 P ty N B Fin vr m g w)(hr:RR ty N w w'):R2 P ty N B Fin vr m g w':=by
 cases h with
 | walk h=>exact .walk (Goes.rely RR.trans' h hr)
 | again h=>exact .again λwz kv=>h wz (RR.trans' _ _ _ hr kv)
theorem DSit.rely {k:Nat}{val:Value}{s m d:Nat}{g:Goroutine}(h:DSit P ty N k val s m d g w)(hr:RW ty (N+7) (N+6) 2 0 (k-1) w w'):DSit P ty N k val s m d g w':=by
 cases h with
 | r0 h=>exact .r0 (Goes.rely (λ_ _ _ h1 h2=>h1.trans h2) h hr)
 | rest h6 h=>exact .rest h6 (h.rely hr)
theorem DSit.status {k:Nat}{val:Value}{s m d:Nat}{g:Goroutine}(h:DSit P ty N k val s m d g w):g.status=.running\/g.status=.finished:=by
 cases h with
 | r0 h=>unfold ToDone at h;exact .inl (Goes.running (λ_ _ x=>x.1) w (RW.refl w) h)
 | rest _ h=>exact h.status
theorem DSit.woken {k:Nat}{val:Value}{s m d:Nat}{g:Goroutine}(h:DSit P ty N k val s m d g w)(a a':Goroutine)(wz:World):woken P a a' wz g=g:=by
 unfold Go.Conc.woken;split
 ·exact again_running _ h.status
 ·rfl
theorem PAt.rely (hF:∀w w',RR ty N w w'->Fin w->Fin w')(hk:Kp ty N w0 w->Kp ty N w0 w')(hs:RS ty N w w')(hr:RR ty N w w')(h1:RW ty (N+7) (N+6) 2 0 (1-1) w w')(h2:RW ty (N+7) (N+6) 2 0 (2-1) w w')
  (h:PAt P ty N B w0 Fin v vs vr p a b w):PAt P ty N B w0 Fin v vs vr p a b w':=by
 cases h with
 | none h=>exact .none (hk h)
 | sa h g=>exact .sa (hk h) (Goes.rely RS.trans' g hs)
 | sb h g=>exact .sb (hk h) (Goes.rely RS.trans' g hs)
 | ca g h=>exact .ca (Goes.rely RS.trans' g hs) (Goes.rely RR.trans' h hr)
 | cb g h=>exact .cb (Goes.rely RS.trans' g hs) (Goes.rely RR.trans' h hr)
 | cc g h=>exact .cc (Goes.rely RS.trans' g hs) (Goes.rely RR.trans' h hr)
 | da g h=>exact .da (Goes.rely RS.trans' g hs) (Goes.rely RR.trans' h hr)
 | db g h=>exact .db (Goes.rely RS.trans' g hs) (λwz kv=>h wz (RR.trans' _ _ _ hr kv))
 | ea g h=>exact .ea (g.rely h1) (h.rely hr)
 | fa g h f=>exact .fa (g.rely h1) (h.rely h2) (hF _ _ hr f)
theorem PAt.turn (hF:∀w w',RR ty N w w'->Fin w->Fin w')(hA:Aside (N+7) w w')(hl:WgLive ty (N+7) w')(h:PAt P ty N B w0 Fin v vs vr p a b w):PAt P ty N B w0 Fin v vs vr p a b w':=
 h.rely hF (λh=>h.turn hA hl) (RS.turn hA hl) (RR.turn hA hl) (RW.of_wg hA hl (by omega)) (RW.of_wg hA hl (by omega))
theorem PAt.at (hF:∀w w',RR ty N w w'->Fin w->Fin w')(h:PAt P ty N B w0 Fin v vs vr p a b w)(d:Nat):PAt P ty N B w0 Fin v vs vr p a b (w.at d):=
 PAt.rely (w:=w) (w':=w.at d) hF (λh=>⟨h.tape,h.os,h.output,h.size,h.block,h.live⟩) (RS.at' w d) (RR.at' w d) (RW.at w d) (RW.at w d) h
theorem PAt.wokenBy (hc:w.heap[N+2]?=some p.chan)(h:PAt P ty N B w0 Fin v vs vr p a b w)(g g':Goroutine):a.map (woken P g g' w)=a/\b.map (woken P g g' w)=b:=by
 have run1:∀{m o},ToSend P ty N B v vs m o w->woken P g g' w o=o:=λh=>by unfold ToSend at h;exact woken_running (Goes.running (λ_ _ x=>x.1) w (RS.refl' w) h)
 have run2:∀{m o},ToClose P ty N B vs m o w->woken P g g' w o=o:=λh=>by unfold ToClose at h;exact woken_running (Goes.running (λ_ _ x=>x.1) w (RS.refl' w) h)
 have run3:∀{m o},ToRecv P ty N B Fin v vr m o w->woken P g g' w o=o:=λh=>by unfold ToRecv at h;exact woken_running (Goes.running (λ_ _ x=>x.1) w (RR.refl' w) h)
 have run4:∀{m o},ToRecv2 P ty N B Fin vr m o w->woken P g g' w o=o:=λh=>by unfold ToRecv2 at h;exact woken_running (Goes.running (λ_ _ x=>x.1) w (RR.refl' w) h)
 cases h with
 | none h=>exact⟨rfl,rfl⟩
 | sa h x=>exact⟨by rw[Option.map_some,run1 x],rfl⟩
 | sb h x=>exact⟨by rw[Option.map_some,woken_send_open _ _ hc],rfl⟩
 | ca x y=>exact⟨by rw[Option.map_some,run1 x],by rw[Option.map_some,run3 y]⟩
 | cb x y=>exact⟨by rw[Option.map_some,woken_send_open _ _ hc],by rw[Option.map_some,run3 y]⟩
 | cc x y=>exact⟨by rw[Option.map_some,run1 x],by rw[Option.map_some,woken_recv_open _ _ hc]⟩
 | da x y=>exact⟨by rw[Option.map_some,run2 x],by rw[Option.map_some,run4 y]⟩
 | db x y=>exact⟨by rw[Option.map_some,run2 x],by rw[Option.map_some,woken_recv_open _ _ hc]⟩
 | ea x y=>
  refine⟨by rw[Option.map_some,DSit.woken x],?_⟩;cases y with
  | walk y=>rw[Option.map_some,run4 y]
  | again y=>rw[Option.map_some,woken_running rfl]
 | fa x y _=>exact⟨by rw[Option.map_some,DSit.woken x],by rw[Option.map_some,DSit.woken y]⟩
end
end Go.Proofs.Mn
namespace Go.Proofs.Mn
open Go Go.Conc
open Go.ConcN (WSit RW WgLive DWs AtR0 WD CTag Mode Vc cnt upd Ssum Fsum phi isOpen isW3 isFin RelBy sumTo)
open Go.ConcR (KK wgBlock WgAt stA smA rd wr mk Payload DC0 Bk g_of_ofEvents)
variable [Payload]
theorem Acq2.app {N n0 T0:Nat}{t u:Trace}(h:Acq2 N n0 T0 t)(hu:∀k r,k=n0\/k=n0+1->RelBy (stA (N+7)) t k r->RelBy (stA (N+7)) (t++u) k r):Acq2 N n0 T0 (t++u):=by
 obtain⟨q,h1,h2,h3,h4⟩:=h;have hq:=lt_of_act? h1;exact⟨q,by rw[act?_old hq];exact h1,by rw[g?_old hq];exact h2,(heard_old hq).2 h3,λi hi=>let⟨r,hr,h0,hrq⟩:=h4 i hi;⟨r,hu i r hi hr,h0,hrq⟩⟩
theorem lieG {Shun:Loc->Prop}{N n0:Nat}(h:∀l,Shun l->∃a,l=.cell a/\a.block<N):Lie Shun (shG N) (ownG N n0 (n0+1)) (rdG N n0 (n0+1)):=by
 have ne:∀{a b:Addr},Loc.cell a=Loc.cell b->a.block=b.block:=λe=>by cases e;rfl
 refine⟨?_,?_,?_,?_,?_,?_,?_,?_⟩
 ·rintro k k' l (⟨rfl,⟨a,rfl,ha⟩|rfl⟩|⟨rfl,a,rfl,ha⟩) (⟨rfl,⟨b,e,hb⟩|e⟩|⟨rfl,b,e,hb⟩)<;>first|rfl|(have:=ne e;omega)|cases e
 ·rintro k k' l (⟨rfl,⟨a,rfl,ha⟩|rfl⟩|⟨rfl,a,rfl,ha⟩) ⟨_,b,e,hb⟩<;>first|(have:=ne e;omega)|cases e
 ·rintro k l (⟨rfl,⟨a,rfl,ha⟩|rfl⟩|⟨rfl,a,rfl,ha⟩) ⟨b,e,hb⟩<;>first|(have:=ne e;omega)|cases e
 ·rintro k l ⟨_,a,rfl,ha⟩ ⟨b,e,hb⟩;have:=ne e;omega
 ·rintro k l (⟨rfl,⟨a,rfl,ha⟩|rfl⟩|⟨rfl,a,rfl,ha⟩) hs<;>obtain⟨b,e,hb⟩:=h _ hs<;>first|(have:=ne e;omega)|cases e
 ·rintro k l ⟨_,a,rfl,ha⟩ hs;obtain⟨b,e,hb⟩:=h _ hs;have:=ne e;omega
 ·rintro k l (⟨rfl,⟨a,rfl,ha⟩|rfl⟩|⟨rfl,a,rfl,ha⟩)<;>rfl
 ·rintro k l ⟨_,a,rfl,ha⟩;rfl
section
variable {P:Program}{ty:TypeId}{N B:Nat}{w0:World}{Fin:World->Prop}{v vs vr:Value}{AnchW Out:Goroutine->World->Prop}{Shun:Loc->Prop}{n0 T0:Nat}
 {tag tag':MTag}{f f' d0:Nat}{p:PTag}{q:Nat->Nat}{gs:Array Goroutine}{w w':World}{t:Trace}{st sm st' sm':Int}{a a':Goroutine}{es:Array Event}{sl:Option (Nat×Nat)}
theorem j1q (φ:Goroutine->Goroutine)(i:Nat)(x:Goroutine)(j:Nat)(h:i≠j):((gs.map φ).setIfInBounds i x)[j]?=(gs[j]?).map φ:=by
 rw[Array.getElem?_setIfInBounds_ne h,Array.getElem?_map]
theorem Co.at (hF:∀w w',RR ty N w w'->Fin w->Fin w')(h:(Co P ty N B w0 Fin v vs vr AnchW Out Shun n0 T0) tag f d0 p q gs w t st sm)(d:Nat):(Co P ty N B w0 Fin v vs vr AnchW Out Shun n0 T0) tag f d0 p q gs (w.at d) t st sm:=
 ⟨h.fit,h.size,h.pos,let⟨a,ha,hs⟩:=h.m0;⟨a,ha,hs.rely (RM.at' w d)⟩,h.pr.at hF d,h.old,h.above,⟨h.keep.tape,h.keep.os,h.keep.output,h.keep.size,h.keep.block⟩,h.chan,h.wg,h.mode,h.pt,h.deaf0,h.deafS,h.deafR,h.relS,h.relR,h.acq⟩
theorem Keep.turn (h:Keep N w0 w)(hA:Aside (N+7) w w'):Keep N w0 w':=
 ⟨hA.tape.trans h.tape,hA.os.trans h.os,hA.output.trans h.output,by rw[hA.size];exact h.size,λb h1 h2 h3 h4=>(hA.block b h4).trans (h.block b h1 h2 h3 h4)⟩
theorem Co.stepM (hS:∀l,Shun l->∃a,l=.cell a/\a.block<N)(hF:∀w w',RR ty N w w'->Fin w->Fin w')(h:(Co P ty N B w0 Fin v vs vr AnchW Out Shun n0 T0) tag f d0 p q gs w t st sm)(ha:gs[0]?=some a)(hgo:stepG P true a w=.go a' w' es)
  (hA:Aside (N+7) w w')(hwg:WgAt ty (N+7) w' st' sm')(hok:∀op∈MemOp.ofEvents 0 a.frame.fn a.frame.place es,OkP0 (stA (N+7)) (shG N) B op)
  (hs':MSit P ty N B AnchW Out (Born1 P ty N B w0 v vs) (Born2 P ty N B w0 Fin v vr) tag' f' (deafBehind d0 es) a' w')(hfit:fits tag' p)
  (hmode:(tag'=.kd0\/tag'=.a0->st'=0/\sm'=0)/\(tag'≠.kd0->tag'≠.a0->Go.ConcN.Mode 2 p.d tag'.c st' sm'))
  (hacq:tag'=.out->Acq2 N n0 T0 (t++MemOp.ofEvents 0 a.frame.fn a.frame.place es)) :
  ∃gs',runT P (crowd gs w sl) 0=(.next (crowd gs' w' sl),MemOp.ofEvents 0 a.frame.fn a.frame.place es)/\(Co P ty N B w0 Fin v vs vr AnchW Out Shun n0 T0) tag' f' (deafBehind d0 es) p q gs' w' (t++MemOp.ofEvents 0 a.frame.fn a.frame.place es) st' sm':=by
 have hlt:0<gs.size:=by have:=h.size;have:=h.pos;omega
 have hpos:=h.pos;have hne:N+2≠N+7:=by omega
 refine⟨_,runT_crowd_go (P:=P) (sl:=sl) (i:=0) ha (by simpa using hgo),?_⟩;have hch:w'.heap[N+2]?=some p.chan:=(hA.block _ hne).trans h.chan;have hpr:=h.pr.turn hF hA ⟨_,_,hwg⟩;obtain⟨e1,e2⟩:=hpr.wokenBy hch a a';have rel:∀k r,k=n0\/k=n0+1->RelBy (stA (N+7)) t k r->RelBy (stA (N+7)) (t++MemOp.ofEvents 0 a.frame.fn a.frame.place es) k r:=λk r hk hr=>hr.appOther g_of_ofEvents (by omega);refine⟨hfit,by simp[h.size],h.pos,⟨a',by simp[hlt],hs'⟩,?_,λi g hi hin hg=>?_,λj hj=>?_,h.keep.turn hA,hch,hwg,hmode,h.pt.app0 (lieG hS) hok,by rw[Deaf_own,h.deaf0],?_,?_,
  λhs=>let⟨r,hr,h0⟩:=h.relS hs;⟨r,rel _ _ (.inl rfl) hr,h0⟩,λhs=>let⟨r,hr,h0⟩:=h.relR hs;⟨r,rel _ _ (.inr rfl) hr,h0⟩,hacq⟩
 ·rw[j1q _ _ _ _ (by omega),j1q _ _ _ _ (by omega),e1,e2];exact hpr
 ·rw[j1q _ _ _ _ (by omega)]at hg;obtain⟨y,hy,rfl⟩:=Option.map_eq_some_iff.1 hg;have hq:=h.old i y hi hin hy;rw[woken_quitsD hq,Deaf_other t (by omega) _ g_of_ofEvents];exact hq
 ·rw[Deaf_other t (g':=0) (by simp at hj;omega) _ g_of_ofEvents];exact h.above j (by simpa using hj)
 ·rw[Deaf_other t (by omega) _ g_of_ofEvents];exact h.deafS
 ·rw[Deaf_other t (by omega) _ g_of_ofEvents];exact h.deafR
end
end Go.Proofs.Mn
namespace Go.Proofs.Mn
open Go Go.Conc
open Go.ConcN (WSit RW WgLive DWs AtR0 WD CTag Mode Vc cnt upd Ssum Fsum phi isOpen isW3 isFin RelBy sumTo)
open Go.ConcR (KK wgBlock WgAt stA smA rd wr mk Payload DC0 Bk g_of_ofEvents)
variable [Payload]
section
variable {P:Program}{ty:TypeId}{N B:Nat}{w0:World}{Fin:World->Prop}{v vs vr:Value}{AnchW Out:Goroutine->World->Prop}{Shun:Loc->Prop}{n0 T0:Nat}
 {tag:MTag}{f d0:Nat}{p p':PTag}{q:Nat->Nat}{gs:Array Goroutine}{w w':World}{t:Trace}{st sm st' sm':Int}{g g':Goroutine}{es:Array Event}{sl:Option (Nat×Nat)}{i k:Nat}
theorem fits.retag {tag tag':MTag}(h:fits tag p)(e:tag'=tag\/(tag=.blk/\tag'=.w3)):fits tag' p:=by
 rcases e with rfl|⟨rfl,rfl⟩
 ·exact h
 ·exact h
theorem jei {p:PTag}{n0 k:Nat}(hk:k=n0\/k=n0+1)(h:k<n0+p.kids):p.started n0 k:=by
 cases p<;>simp only[PTag.started,PTag.kids]at h ⊢<;>omega
theorem jjx {p:PTag}{n0 i:Nat}(h:i<n0):¬p.started n0 i:=by
 intro hh;cases p<;>simp only[PTag.started]at hh<;>omega
theorem j99 {g:Nat}{fn:FuncId}{pos:String}{es:Array Event}(hm:∀e∈es,e.mute=true):∀op∈MemOp.ofEvents g fn pos es,op.act.touch?=none/\(∀B,op.act.low B)/\∀a,op.act≠.mark (.release a):=by
 intro op hop;obtain⟨e,he,rfl⟩:=Go.Conc.mem_ofEvents hop;refine⟨touch_mute (hm e he),low_mute (hm e he),λa e'=>?_⟩;rcases act_mute (hm e he)with x|x<;>· simp only at e';rw[x]at e';cases e'
theorem Co.stepOld (hAr:∀g w,AnchW g w->g.status=.running)(hOr:∀g w,Out g w->g.status=.running)(h:(Co P ty N B w0 Fin v vs vr AnchW Out Shun n0 T0) tag f d0 p q gs w t st sm)(hi0:0<i)(hin:i<n0)(hg:gs[i]?=some g)(hrun:g.status=.running) :
  ∃(tag':MTag) (f':Nat) (gs':Array Goroutine) (ops:Trace) (k:Nat),q i=k+1/\runT P (crowd gs w sl) i=(.next (crowd gs' w sl),ops)/\(tag'=tag\/(tag=.blk/\tag'=.w3))/\f'<=f+1/\(Co P ty N B w0 Fin v vs vr AnchW Out Shun n0 T0) tag' f' d0 p (upd q i k) gs' w (t++ops) st sm:=by
 have hq:=h.old i g hi0 hin hg;have hi:(i==0)=false:=by simp;omega
 have hsz:=h.size;cases hqi:q i with
 | zero=>rw[hqi]at hq;rw[hq.1]at hrun;cases hrun
 | succ k=>
  rw[hqi]at hq;rcases hq with⟨hf,_⟩|⟨_,g',es,hm,hstp,hq'⟩
  ·rw[hf]at hrun;cases hrun
  have hrunT:=runT_crowd_go (P:=P) (sl:=sl) (i:=i) hg (by rw[hi];exact hstp w);obtain⟨a,ha,hs⟩:=h.m0;obtain⟨tag',f',hs',hf',htag,_⟩:=hs.wokenBy hAr hOr (RM.refl' w) g g';obtain⟨e1,e2⟩:=h.pr.wokenBy h.chan g g';have rel:∀k r,k=n0\/k=n0+1->RelBy (stA (N+7)) t k r->RelBy (stA (N+7)) (t++MemOp.ofEvents i g.frame.fn g.frame.place es) k r:=λk r hk hr=>hr.appOther g_of_ofEvents (by omega);have hns:¬p.started n0 i:=jjx hin;refine⟨tag',f',_,_,k,rfl,hrunT,htag,hf',h.fit.retag htag,by simp[h.size],h.pos,⟨_,by rw[j1q _ _ _ _ (by omega),ha,Option.map_some],hs'⟩,?_,λj x hj hjn hx=>?_,λj hj=>?_,h.keep,h.chan,h.wg,?_,?_,?_,?_,?_,
   λhs=>let⟨r,hr,h0⟩:=h.relS hs;⟨r,rel _ _ (.inl rfl) hr,h0⟩,λhs=>let⟨r,hr,h0⟩:=h.relR hs;⟨r,rel _ _ (.inr rfl) hr,h0⟩,λe=>?_⟩
  ·rw[j1q _ _ _ _ (by omega),j1q _ _ _ _ (by omega),e1,e2];exact h.pr
  ·by_cases hji:i=j
   ·subst hji;rw[Array.getElem?_setIfInBounds_self_of_lt (by simp;omega)]at hx;obtain rfl:=Option.some.inj hx;rw[Go.ConcN.upd_same,Deaf_own];exact hq'
   ·rw[j1q _ _ _ _ hji]at hx;obtain⟨y,hy,rfl⟩:=Option.map_eq_some_iff.1 hx;have hqj:=h.old j y hj hjn hy;rw[woken_quitsD hqj,Go.ConcN.upd_ne q k (Ne.symm hji),Deaf_other t hji _ g_of_ofEvents];exact hqj
  ·rw[Deaf_other t (g':=i) (by simp at hj;omega) _ g_of_ofEvents];exact h.above j (by simpa using hj)
  ·rcases htag with rfl|⟨rfl,rfl⟩
   ·exact h.mode
   ·exact⟨λe=>by simp at e,λ_ _=>(h.mode.2 (by simp) (by simp)).retag (.inr ⟨rfl,rfl⟩)⟩
  ·exact h.pt.appMute hns g_of_ofEvents (λop hop=>(j99 hm op hop).1) (λop hop=>(j99 hm op hop).2.1 B) (λop hop=>(j99 hm op hop).2.2 _)
  ·rw[Deaf_other t (by omega) _ g_of_ofEvents];exact h.deaf0
  ·rw[Deaf_other t (by omega) _ g_of_ofEvents];exact h.deafS
  ·rw[Deaf_other t (by omega) _ g_of_ofEvents];exact h.deafR
  ·rcases htag with rfl|⟨_,rfl⟩
   ·exact(h.acq e).app rel
   ·cases e
theorem Co.stepK (hS:∀l,Shun l->∃a,l=.cell a/\a.block<N)(hAr:∀g w,AnchW g w->g.status=.running)(hOr:∀g w,Out g w->g.status=.running)(h:(Co P ty N B w0 Fin v vs vr AnchW Out Shun n0 T0) tag f d0 p q gs w t st sm)
  (hk:k=n0\/k=n0+1)(hk':k<n0+p.kids)(hg:gs[k]?=some g)(hgo:stepG P false g w=.go g' w' es)
  (hkids:p'.kids=p.kids)(hst:p'.started n0=p.started n0)
  (hpr:PAt P ty N B w0 Fin v vs vr p' (if k=n0 then some g' else(gs[n0]?).map (woken P g g' w')) (if k=n0+1 then some g' else(gs[n0+1]?).map (woken P g g' w')) w')
  (hM:RM ty N w w')(hkeep:Keep N w0 w')(hch:w'.heap[N+2]?=some p'.chan)(hwg:WgAt ty (N+7) w' st' sm')
  (hok:∀op∈MemOp.ofEvents k g.frame.fn g.frame.place es,OkPk (stA (N+7)) (shG N) (ownG N n0 (n0+1)) (rdG N n0 (n0+1)) B k op)
  (hd:∀i op,(t++MemOp.ofEvents k g.frame.fn g.frame.place es)[i]?=some op->t.size<=i->∀x,op.act.touch?=some x->(shG N x.loc/\x.kind=.atomic)\/x.kind≠.atomic\/(t++MemOp.ofEvents k g.frame.fn g.frame.place es).heard i)
  (hdS:Deaf (t++MemOp.ofEvents k g.frame.fn g.frame.place es) n0=p'.ds)(hdR:Deaf (t++MemOp.ofEvents k g.frame.fn g.frame.place es) (n0+1)=p'.dr)
  (hrS:Rl (stA (N+7)) T0 (t++MemOp.ofEvents k g.frame.fn g.frame.place es) n0 (p'.d 0).stage)
  (hrR:Rl (stA (N+7)) T0 (t++MemOp.ofEvents k g.frame.fn g.frame.place es) (n0+1) (p'.d 1).stage)
  (hmode:∀tag',(tag'=tag\/(tag=.blk/\tag'=.w3))->(mayWake P g=true->g'.status=.running->tag'≠.blk)->(tag'=.kd0\/tag'=.a0->st'=0/\sm'=0)/\(tag'≠.kd0->tag'≠.a0->Go.ConcN.Mode 2 p'.d tag'.c st' sm'))
  (hfit:∀tag',fits tag' p->fits tag' p')
  (hacq:tag=.out->Acq2 N n0 T0 (t++MemOp.ofEvents k g.frame.fn g.frame.place es)) :
  ∃tag' f' gs',runT P (crowd gs w sl) k=(.next (crowd gs' w' sl),MemOp.ofEvents k g.frame.fn g.frame.place es)/\(tag'=tag\/(tag=.blk/\tag'=.w3))/\f'<=f+1/\(Co P ty N B w0 Fin v vs vr AnchW Out Shun n0 T0) tag' f' d0 p' q gs' w' (t++MemOp.ofEvents k g.frame.fn g.frame.place es) st' sm':=by
 have hpos:=h.pos;have hsz:=h.size;have hi:(k==0)=false:=by simp;omega
 obtain⟨a,ha,hs⟩:=h.m0;obtain⟨tag',f',hs',hf',htag,hwk⟩:=hs.wokenBy hAr hOr hM g g';have hstk:p.started n0 k:=jei hk hk';refine⟨tag',f',_,runT_crowd_go (P:=P) (sl:=sl) (i:=k) hg (by rw[hi];exact hgo),htag,hf',hfit _ (h.fit.retag htag),(by simp[h.size,hkids]),h.pos,⟨_,by rw[j1q _ _ _ _ (by omega),ha,Option.map_some],hs'⟩,?_,λj x hj hjn hx=>?_,λj hj=>?_,
  hkeep,hch,hwg,hmode tag' htag hwk,by rw[hst];exact h.pt.appk (lieG hS) hstk hok hd,by rw[Deaf_other t (by omega) _ g_of_ofEvents];exact h.deaf0,hdS,hdR,hrS,hrR,λe=>?_⟩
 ·have e1:((gs.map (woken P g g' w')).setIfInBounds k g')[n0]?=if k=n0 then some g' else(gs[n0]?).map (woken P g g' w'):=by
   split
   ·rename_i e;subst e;rw[Array.getElem?_setIfInBounds_self_of_lt (by simp;omega)]
   ·rename_i e;rw[j1q _ _ _ _ e]
  have e2:((gs.map (woken P g g' w')).setIfInBounds k g')[n0+1]?=if k=n0+1 then some g' else(gs[n0+1]?).map (woken P g g' w'):=by
   split
   ·rename_i e;subst e;rw[Array.getElem?_setIfInBounds_self_of_lt (by simp;omega)]
   ·rename_i e;rw[j1q _ _ _ _ e]
  rw[e1,e2];exact hpr
 ·rw[j1q _ _ _ _ (by omega)]at hx;obtain⟨y,hy,rfl⟩:=Option.map_eq_some_iff.1 hx;have hqj:=h.old j y hj hjn hy;rw[woken_quitsD hqj,Deaf_other t (by omega) _ g_of_ofEvents];exact hqj
 ·rw[Deaf_other t (g':=k) (by simp at hj;omega) _ g_of_ofEvents];exact h.above j (by simpa using hj)
 ·rcases htag with rfl|⟨_,rfl⟩
  ·exact hacq e
  ·cases e
end
end Go.Proofs.Mn
namespace Go.Proofs.Mn
open Go Go.Conc
open Go.ConcN (WSit RW WgLive DWs AtR0 WD CTag Mode Vc cnt upd Ssum Fsum phi isOpen isW3 isFin RelBy sumTo)
open Go.ConcR (KK wgBlock WgAt stA smA rd wr mk Payload DC0 Bk g_of_ofEvents)
variable [Payload]
section
variable {P:Program}{ty:TypeId}{N B:Nat}{w0:World}{Fin:World->Prop}{v vs vr:Value}{AnchW Out:Goroutine->World->Prop}{Shun:Loc->Prop}{n0 T0:Nat}
 {tag:MTag}{f f' d0:Nat}{p p':PTag}{q:Nat->Nat}{gs:Array Goroutine}{w w':World}{t:Trace}{st sm st' sm':Int}{a a' g g' child:Goroutine}{es:Array Event}{sl:Option (Nat×Nat)}{i k:Nat}
theorem jp7 (t:Trace)(j:Nat){x y:MemOp}(hx:x.act=.go k)(hy:y.act=.start):Deaf (t++#[x,y]) j=Deaf t j:=by
 refine Go.ConcN.Deaf_still t j #[x,y] λop hop=>?_;simp only[List.mem_toArray,List.mem_cons,List.not_mem_nil,or_false]at hop;rcases hop with rfl|rfl
 ·rw[hx];exact⟨by simp,by simp⟩
 ·rw[hy];exact⟨by simp,by simp⟩
theorem Co.spawn (hS:∀l,Shun l->∃a,l=.cell a/\a.block<N){tag':MTag}(h:(Co P ty N B w0 Fin v vs vr AnchW Out Shun n0 T0) tag f 0 p q gs w t st sm)(ha:gs[0]?=some a)(hgo:stepG P true a w=.spawn a' child w #[])
  (hk:p'.kids=p.kids+1)(hst:p'.started n0=λj=>p.started n0 j\/j=n0+p.kids)(hd:p'.d=p.d)(hch:p'.chan=p.chan)(hds:p'.ds=0/\p.ds=0/\p'.dr=0/\p.dr=0)(hd7:(p.d 0).stage=7/\(p.d 1).stage=7)
  (hs':MSit P ty N B AnchW Out (Born1 P ty N B w0 v vs) (Born2 P ty N B w0 Fin v vr) tag' f' 0 a' w)(hfit:fits tag' p')(htag:tag.c=.kd/\tag'.c=.kd)(hne:tag≠.kd0/\tag≠.a0/\tag'≠.kd0/\tag'≠.a0/\tag'≠.out)
  (hpr:PAt P ty N B w0 Fin v vs vr p' (if p.kids=0 then some child else gs[n0]?) (if p.kids=1 then some child else gs[n0+1]?) w)(hkid:p.kids=0\/p.kids=1) :
  ∃gs' ops,runT P (crowd gs w sl) 0=(.next (crowd gs' w sl),ops)/\(Co P ty N B w0 Fin v vs vr AnchW Out Shun n0 T0) tag' f' 0 p' q gs' w (t++ops) st sm:=by
 have hpos:=h.pos;have hsz:=h.size;have hlt:0<gs.size:=by omega
 have hrunT:=runT_crowd_spawn (P:=P) (sl:=sl) (i:=0) ha (by simpa using hgo);rw[ofEvents_none]at hrunT;refine⟨_,_,hrunT,?_⟩;generalize hx:({ g:=0,fn:=a.frame.fn,pos:=a.frame.place,act:=.go gs.size }:MemOp)=x;generalize hy:({ g:=gs.size,fn:=child.frame.fn,pos:=a.frame.place,act:=.start }:MemOp)=y;have hx':x.g=0/\x.act=.go gs.size:=by subst hx;exact⟨rfl,rfl⟩
 have hy':y.g=gs.size/\y.act=.start:=by subst hy;exact⟨rfl,rfl⟩
 have e:((#[]:Trace).push x).push y=#[x,y]:=rfl;rw[e];have hdf:=λj=>jp7 (k:=gs.size) t j hx'.2 hy'.2;have hns:¬p.started n0 gs.size:=by
  rw[hsz];intro hh;rcases hkid with e|e<;>cases p<;>simp only[PTag.started,PTag.kids]at hh e<;>omega
 have hget:∀j,j<gs.size->j≠0->((gs.setIfInBounds 0 a').push child)[j]?=gs[j]?:=λj hj h0=>by
  rw[Array.getElem?_push,if_neg (by simp;omega),Array.getElem?_setIfInBounds_ne (by omega)]
 have hnew:((gs.setIfInBounds 0 a').push child)[gs.size]?=some child:=by rw[Array.getElem?_push,if_pos (by simp)]
 refine⟨hfit,by simp[hsz,hk];omega,h.pos,⟨a',?_,hs'⟩,?_,λj x hj hjn hx=>?_,λj hj=>?_,h.keep,by rw[hch];exact h.chan,h.wg,?_,?_,by rw[hdf];exact h.deaf0,by rw[hdf,h.deafS,hds.1,hds.2.1],by rw[hdf,h.deafR,hds.2.2.1,hds.2.2.2],?_,?_,λe=>absurd e hne.2.2.2.2⟩
 ·rw[Array.getElem?_push,if_neg (by simp;omega)];simp[hlt]
 ·rcases hkid with e|e
  ·have e1:((gs.setIfInBounds 0 a').push child)[n0]?=some child:=by rw[show n0=gs.size by omega];exact hnew
   have e2:((gs.setIfInBounds 0 a').push child)[n0+1]?=gs[n0+1]?:=by
    rw[Array.getElem?_eq_none (by simp;omega),Array.getElem?_eq_none (by omega)]
   rw[e1,e2];simpa[e]using hpr
  ·have e1:((gs.setIfInBounds 0 a').push child)[n0]?=gs[n0]?:=hget n0 (by omega) (by omega);have e2:((gs.setIfInBounds 0 a').push child)[n0+1]?=some child:=by rw[show n0+1=gs.size by omega];exact hnew
   rw[e1,e2];simpa[e]using hpr
 ·rw[hget j (by omega) (by omega)]at hx;rw[hdf];exact h.old j x hj hjn hx
 ·rw[hdf];refine h.above j ?_;simp at hj;omega
 ·refine⟨λe=>?_,λ_ _=>?_⟩
  ·rcases e with e|e
   ·exact absurd e hne.2.2.1
   ·exact absurd e hne.2.2.2.1
  ·have:=h.mode.2 hne.1 hne.2.1;rw[htag.1]at this;rw[htag.2,hd];exact this
 ·rw[hst,<- hsz];exact h.pt.fork (lieG hS) hns (by omega) hx' hy' h.deaf0 (h.above _ (Nat.le_refl _))
 ·rw[hd];intro h6;omega
 ·rw[hd];intro h6;omega
end
end Go.Proofs.Mn
namespace Go.Proofs.Mn
open Go Go.Conc
open Go.ConcN (WSit RW WgLive DWs AtR0 WD CTag Mode Vc cnt upd Ssum Fsum phi isOpen isW3 isFin RelBy sumTo)
open Go.ConcR (KK wgBlock WgAt stA smA rd wr mk Payload DC0 Bk g_of_ofEvents)
variable [Payload]
section
variable {P:Program}{ty:TypeId}{N B:Nat}{w0:World}{Fin:World->Prop}{v vs vr:Value}{AnchW Out:Goroutine->World->Prop}{Shun:Loc->Prop}{n0 T0:Nat}
 {tag:MTag}{f f' d0:Nat}{p p':PTag}{q:Nat->Nat}{gs gs':Array Goroutine}{w w':World}{t u:Trace}{st sm st' sm':Int}{a a' g g' child:Goroutine}{es:Array Event}{sl:Option (Nat×Nat)}{i k:Nat}
def CommAct (B s r:Nat)(op:MemOp):Prop:=
 (op.g=s\/op.g=r)/\op.act.touch?=none/\op.act.low B/\∀m,op.act≠.mark m
theorem PT.appFree {ra:Addr}{Sh:Loc->Prop}{Own Rd:Nat->Loc->Prop}{St:Nat->Prop}{s r:Nat}(L:Lie Shun Sh Own Rd)(hs:∀op∈u,St op.g)(hu:∀op∈u,CommAct B s r op)(h:PT ra Shun Sh Own Rd B T0 St t):PT ra Shun Sh Own Rd B T0 St (t++u):=by
 obtain⟨l⟩:=u;induction l generalizing t with
 | nil=>simpa using h
 | cons x l ih=>
  have e:t++(x::l).toArray=(t++#[x])++l.toArray:=by apply Array.ext';simp
  rw[e];have hx:=hu x (by simp);have no:∀op∈(#[x]:Trace),op.act.touch?=none:=λop hop=>by simp at hop;rw[hop];exact hx.2.1
  refine ih (h.appk L (k:=x.g) (hs x (by simp)) (λop hop=>?_) (λi op hi hle y hy=>?_)) (λop hop=>hs op (by simp at hop ⊢;exact .inr hop)) (λop hop=>hu op (by simp at hop ⊢;exact .inr hop))
  ·have e1:=no op hop;simp at hop;subst hop;exact⟨rfl,λy hy=>(by rw[e1]at hy;cases hy),hx.2.2.1,hx.2.2.2 _⟩
  ·rcases getElem?_append_cases hi with⟨hlt,_⟩|⟨_,hm⟩
   ·omega
   ·rw[no op hm]at hy;cases hy
theorem jfq {s r:Nat}(hu:∀op∈u,CommAct B s r op):∀op∈u,op.act≠.mark .disable/\op.act≠.mark .enable:=λop hop=>⟨(hu op hop).2.2.2 _,(hu op hop).2.2.2 _⟩
theorem jnz {a:Addr}{r s r' k:Nat}(h:RelBy a t k r)(hu:∀op∈u,CommAct B s r' op):RelBy a (t++u) k r:=by
 refine h.app λi hi _ hc=>?_;obtain⟨x,hx,_⟩:=hc;obtain⟨op,ho,hxt⟩:=touch_of hx;rcases getElem?_append_cases ho with⟨hlt,_⟩|⟨_,hm⟩
 ·omega
 ·rw[(hu op hm).2.1]at hxt;cases hxt
theorem Co.comm (h:(Co P ty N B w0 Fin v vs vr AnchW Out Shun n0 T0) tag f d0 p q gs w t st sm)
  (hsz:gs'.size=gs.size)(hget:∀j,j≠n0->j≠n0+1->gs'[j]?=gs[j]?)
  (hkids:p'.kids=p.kids)(hst:p'.started n0=p.started n0)(hpr:PAt P ty N B w0 Fin v vs vr p' gs'[n0]? gs'[n0+1]? w')(hA:Aside (N+2) w w')(hch:w'.heap[N+2]?=some p'.chan)
  (hpt:PT (stA (N+7)) Shun (shG N) (ownG N n0 (n0+1)) (rdG N n0 (n0+1)) B T0 (p.started n0) (t++u))(hdf:∀j,Deaf (t++u) j=Deaf t j)(hds:p'.ds=p.ds)(hdr:p'.dr=p.dr)
  (hrS:Rl (stA (N+7)) T0 (t++u) n0 (p'.d 0).stage)(hrR:Rl (stA (N+7)) T0 (t++u) (n0+1) (p'.d 1).stage)
  (hd:∀i,(p'.d i).stage=(p.d i).stage)(hfit:fits tag p')(hno:tag≠.out) :
  (Co P ty N B w0 Fin v vs vr AnchW Out Shun n0 T0) tag f d0 p' q gs' w' (t++u) st sm:=by
 have hpos:=h.pos;obtain⟨a,ha,hs⟩:=h.m0;have hne:N+7≠N+2:=by omega
 have hwg:WgAt ty (N+7) w' st sm:=(hA.block _ hne).trans h.wg;refine⟨hfit,by rw[hsz,hkids];exact h.size,h.pos,⟨a,by rw[hget 0 (by omega) (by omega)];exact ha,hs.rely λ_=>⟨_,_,hwg⟩⟩,hpr,λj x hj hjn hx=>?_,λj hj=>?_,
  ⟨hA.tape.trans h.keep.tape,hA.os.trans h.keep.os,hA.output.trans h.keep.output,by rw[hA.size];exact h.keep.size,λb h1 h2 h3 h4=>(hA.block b h2).trans (h.keep.block b h1 h2 h3 h4)⟩,
  hch,hwg,⟨h.mode.1,λh1 h2=>(h.mode.2 h1 h2).congr λa _=>hd a⟩,by rw[hst];exact hpt,by rw[hdf];exact h.deaf0,by rw[hdf,hds];exact h.deafS,by rw[hdf,hdr];exact h.deafR,hrS,hrR,λe=>absurd e hno⟩
 ·rw[hget j (by omega) (by omega)]at hx;rw[hdf];exact h.old j x hj hjn hx
 ·rw[hdf];exact h.above j (by rw[<- hsz];exact hj)
theorem offM (hAr:∀g w,AnchW g w->g.status=.running)(hOr:∀g w,Out g w->g.status=.running){Born1 Born2:Goroutine->World->Prop}(h:MSit P ty N B AnchW Out Born1 Born2 tag f d0 a w)(r:Nat)(b:Bool):offersAt a r b=[]:=by
 rcases h.status hAr hOr with⟨hs,_⟩|⟨_,rfl⟩
 ·exact offersAt_of_not_blocked (by rw[hs];simp) r b
 ·cases h with
  | blk hb=>
   have:=(hb w (RM.refl' w)).2.1;simp[offersAt,this]
theorem offQ {n d:Nat}(h:QuitsD P n d g)(r:Nat)(b:Bool):offersAt g r b=[]:=
 offersAt_of_not_blocked (by rcases h.status with e|e<;>rw[e]<;>simp) r b
theorem Co.offers (hAr:∀g w,AnchW g w->g.status=.running)(hOr:∀g w,Out g w->g.status=.running)(h:(Co P ty N B w0 Fin v vs vr AnchW Out Shun n0 T0) tag f d0 p q gs w t st sm){j:Nat}(hj:gs[j]?=some g)(h1:j≠n0)(h2:j≠n0+1)(r:Nat)(b:Bool):offersAt g r b=[]:=by
 have hlt:=(Array.getElem?_eq_some_iff.1 hj).1;have hsz:=h.size;have hk:p.kids<=2:=by cases p<;>simp[PTag.kids]
 rcases Nat.eq_zero_or_pos j with rfl|hpos
 ·obtain⟨a,ha,hs⟩:=h.m0;rw[ha]at hj;cases hj;exact offM hAr hOr hs r b
 ·exact offQ (h.old j g hpos (by omega) hj) r b
end
end Go.Proofs.Mn
namespace Go.Proofs.Mn
open Go Go.Conc
open Go.ConcN (WSit RW WgLive DWs AtR0 WD CTag Mode Vc cnt upd Ssum Fsum phi isOpen isW3 isFin RelBy sumTo)
open Go.ConcR (KK wgBlock WgAt stA smA rd wr mk Payload DC0 Bk g_of_ofEvents)
variable [Payload]
section
variable {P:Program}{ty:TypeId}{N B:Nat}{w0:World}{Fin:World->Prop}{v vs vr:Value}{AnchW Out:Goroutine->World->Prop}{Shun:Loc->Prop}{n0 T0:Nat}
 {tag:MTag}{f f' d0:Nat}{p p':PTag}{q:Nat->Nat}{gs gs':Array Goroutine}{w w':World}{t u:Trace}{st sm st' sm':Int}{a a' g g' child:Goroutine}{es:Array Event}{sl:Option (Nat×Nat)}{i k:Nat}{fn:FuncId}{pos:String}
theorem j5f (hk:Deaf t k=0)(he:∀e∈es,e.loc≠.mark .disable/\e.loc≠.mark .enable){op:MemOp}(hi:(t++MemOp.ofEvents k fn pos es)[i]?=some op)(hle:t.size<=i):(t++MemOp.ofEvents k fn pos es).heard i:=by
 have hlt:=lt_size_of_getElem? hi;have hg:op.g=k:=by
  rcases getElem?_append_cases hi with⟨h,_⟩|⟨_,h⟩
  ·omega
  ·exact g_of_ofEvents op h
 have hs:(MemOp.ofEvents k fn pos es).size=es.size:=by rw[ofEvents_eq];simp
 have hj:i-t.size<=es.size:=by rw[Array.size_append,hs]at hlt;omega
 have:=deaf_inside t k fn pos es (i-t.size) hj;rw[show t.size+(i-t.size)=i by omega,hk,deafBehind_still (λe h=>he e (by obtain⟨j,hj⟩:=Array.mem_iff_getElem?.1 h;rw[Array.getElem?_extract]at hj;split at hj<;>first|(cases hj;done)|exact Array.mem_of_getElem? hj))]at this;exact⟨k,by rw[g?_of hi,hg],this⟩
theorem ja2 (h:∀e∈es,EvS N B e):∀op∈MemOp.ofEvents n0 fn pos es,OkPk (stA (N+7)) (shG N) (ownG N n0 (n0+1)) (rdG N n0 (n0+1)) B n0 op:=by
 intro op hop;obtain⟨e,he,rfl⟩:=Go.Conc.mem_ofEvents hop;obtain⟨h1,_,_,h4,h5⟩:=h e he;refine⟨rfl,λx hx=>?_,h4,λe'=>h5 _ (Go.ConcR.loc_of_ofEvent e')⟩;obtain⟨a,ha,hb|⟨hb,hw⟩⟩:=h1 x hx
 ·exact .inr (.inl (.inl ⟨rfl,.inl ⟨a,ha,hb⟩⟩))
 ·exact .inr (.inr ⟨⟨.inl rfl,a,ha,hb⟩,hw⟩)
theorem ja1 (h:∀e∈es,EvR N B e):∀op∈MemOp.ofEvents (n0+1) fn pos es,OkPk (stA (N+7)) (shG N) (ownG N n0 (n0+1)) (rdG N n0 (n0+1)) B (n0+1) op:=by
 intro op hop;obtain⟨e,he,rfl⟩:=Go.Conc.mem_ofEvents hop;obtain⟨h1,_,_,h4,h5⟩:=h e he;refine⟨rfl,λx hx=>?_,h4,λe'=>h5 _ (Go.ConcR.loc_of_ofEvent e')⟩;obtain⟨a,ha,hb|⟨hb,hw⟩⟩:=h1 x hx
 ·exact .inr (.inl (.inr ⟨rfl,a,ha,hb⟩))
 ·exact .inr (.inr ⟨⟨.inr rfl,a,ha,hb⟩,hw⟩)
theorem cleanS (h:∀e∈es,EvS N B e):∀e∈es,e.loc≠.mark .disable/\e.loc≠.mark .enable:=λe he=>⟨(h e he).2.1,(h e he).2.2.1⟩
theorem cleanR (h:∀e∈es,EvR N B e):∀e∈es,e.loc≠.mark .disable/\e.loc≠.mark .enable:=λe he=>⟨(h e he).2.1,(h e he).2.2.1⟩
theorem j2c (he:∀e∈es,e.loc≠.mark .disable/\e.loc≠.mark .enable)(j:Nat):Deaf (t++MemOp.ofEvents k fn pos es) j=Deaf t j:=by
 by_cases e:k=j
 ·subst e;rw[Deaf_own,deafBehind_still he]
 ·rw[Deaf_other t e _ g_of_ofEvents]
theorem Co.ptk (hS:∀l,Shun l->∃a,l=.cell a/\a.block<N)(h:(Co P ty N B w0 Fin v vs vr AnchW Out Shun n0 T0) tag f d0 p q gs w t st sm)(hk:p.started n0 k)(hd:Deaf t k=0)(he:∀e∈es,e.loc≠.mark .disable/\e.loc≠.mark .enable)
  (hok:∀op∈MemOp.ofEvents k fn pos es,OkPk (stA (N+7)) (shG N) (ownG N n0 (n0+1)) (rdG N n0 (n0+1)) B k op):PT (stA (N+7)) Shun (shG N) (ownG N n0 (n0+1)) (rdG N n0 (n0+1)) B T0 (p.started n0) (t++MemOp.ofEvents k fn pos es):=
 h.pt.appk (lieG hS) hk hok λ_ _ hi hle _ _=>.inr (.inr (j5f hd he hi hle))
theorem Co.modeSame (h:(Co P ty N B w0 Fin v vs vr AnchW Out Shun n0 T0) tag f d0 p q gs w t st sm)(hd:∀i,(p'.d i).stage=(p.d i).stage):∀tag',(tag'=tag\/(tag=.blk/\tag'=.w3))->(mayWake P g=true->g'.status=.running->tag'≠.blk) ->
  (tag'=.kd0\/tag'=.a0->st=0/\sm=0)/\(tag'≠.kd0->tag'≠.a0->Go.ConcN.Mode 2 p'.d tag'.c st sm):=by
 intro tag' ht _;rcases ht with rfl|⟨rfl,rfl⟩
 ·exact⟨h.mode.1,λh1 h2=>(h.mode.2 h1 h2).congr λa _=>hd a⟩
 ·exact⟨λe=>by simp at e,λ_ _=>((h.mode.2 (by simp) (by simp)).congr λa _=>hd a).retag (.inr ⟨rfl,rfl⟩)⟩
end
end Go.Proofs.Mn
namespace Go.Proofs.Mn
open Go Go.Conc
open Go.ConcN (WSit RW WgLive DWs AtR0 WD CTag Mode Vc cnt upd Ssum Fsum phi isOpen isW3 isFin RelBy sumTo)
open Go.ConcR (KK wgBlock WgAt stA smA rd wr mk Payload DC0 Bk g_of_ofEvents)
variable [Payload]
theorem jr5 {v v':Nat}(h:v'<=v)(tag:MTag):tag.rank v'<=tag.rank v:=by
 cases tag<;>simp only[MTag.rank]<;>omega
theorem j4z {tag tag':MTag}(e:tag'=tag\/(tag=.blk/\tag'=.w3))(v:Nat):tag'.rank v=tag.rank v:=by
 rcases e with rfl|⟨rfl,rfl⟩<;>rfl
structure PTag.like (p p':PTag):Prop where
 kids:p'.kids=p.kids
 started:∀n,p'.started n=p.started n
 d:p'.d=p.d
 ds:p'.ds=p.ds
 dr:p'.dr=p.dr
section
variable {P:Program}{ty:TypeId}{N B:Nat}{w0:World}{Fin:World->Prop}{v vs vr:Value}{AnchW Out:Goroutine->World->Prop}{Shun:Loc->Prop}{n0 T0:Nat}
 {tag:MTag}{f f' d0:Nat}{p p':PTag}{q:Nat->Nat}{gs gs':Array Goroutine}{w w':World}{t u:Trace}{st sm st' sm':Int}{a a' g g' child:Goroutine}{es:Array Event}{sl:Option (Nat×Nat)}{i k:Nat}{fn:FuncId}{pos:String}
theorem j80 (h:p.like p')(hn:p≠.none){tag:MTag}(hf:fits tag p):fits tag p':=by
 have hk:=h.kids;cases tag<;>simp only[fits]at hf ⊢<;>first|exact absurd hf hn|(rw[hk];exact hf)
def Moves (P:Program)(ty:TypeId)(N B:Nat)(w0:World)(Fin:World->Prop)(v vs vr:Value)(AnchW Out:Goroutine->World->Prop)(Shun:Loc->Prop)(n0 T0:Nat)(μ:Nat×Nat)(gs:Array Goroutine)(w:World)(sl:Option (Nat×Nat))(t:Trace)(i:Nat):Prop:=
 ∃mq ops μ',runT P (crowd gs w sl) i=(.next mq,ops)/\Lt2 μ' μ/\PInv P ty N B w0 Fin v vs vr AnchW Out Shun n0 T0 μ' mq (t++ops)
theorem Co.idle (hS:∀l,Shun l->∃a,l=.cell a/\a.block<N)(hAr:∀g w,AnchW g w->g.status=.running)(hOr:∀g w,Out g w->g.status=.running)(h:(Co P ty N B w0 Fin v vs vr AnchW Out Shun n0 T0) tag f d0 p q gs w t st sm)
  (hk:k=n0\/k=n0+1)(hk':k<n0+p.kids)(hg:gs[k]?=some g)(hgo:stepG P false g w=.go g' w' es)(hl:p.like p')(hch:p'.chan=p.chan)(hn:p≠.none)(hout:tag≠.out)(hdk:Deaf t k=0)
  (hcl:∀e∈es,e.loc≠.mark .disable/\e.loc≠.mark .enable)(hok:∀op∈MemOp.ofEvents k g.frame.fn g.frame.place es,OkPk (stA (N+7)) (shG N) (ownG N n0 (n0+1)) (rdG N n0 (n0+1)) B k op)
  (hpr:PAt P ty N B w0 Fin v vs vr p' (if k=n0 then some g' else gs[n0]?) (if k=n0+1 then some g' else gs[n0+1]?) w')
  (hM:RM ty N w w')(hkeep:Keep N w0 w')(hC:w'.heap[N+2]?=w.heap[N+2]?)(hW:w'.heap[N+7]?=w.heap[N+7]?)(hrS:Rl (stA (N+7)) T0 (t++MemOp.ofEvents k g.frame.fn g.frame.place es) n0 (p.d 0).stage)(hrR:Rl (stA (N+7)) T0 (t++MemOp.ofEvents k g.frame.fn g.frame.place es) (n0+1) (p.d 1).stage)
  (hrank:p'.rank=p.rank)(hfuel:p'.fuel+1<=p.fuel):(Moves P ty N B w0 Fin v vs vr AnchW Out Shun n0 T0) (tag.rank (Vc 2 p.d)+p.rank,f+2*(p.fuel+sumTo n0 q)) gs w sl t k:=by
 have hc2:w'.heap[N+2]?=some p.chan:=hC.trans h.chan;have hpr':PAt P ty N B w0 Fin v vs vr p' (if k=n0 then some g' else(gs[n0]?).map (woken P g g' w')) (if k=n0+1 then some g' else(gs[n0+1]?).map (woken P g g' w')) w':=by
  obtain⟨x1,x2⟩:=hpr.wokenBy (by rw[hch];exact hc2) g g';by_cases ek:k=n0
  ·have ek':k≠n0+1:=by omega
   simp only[if_pos ek,if_neg ek']at hpr x1 x2 ⊢;rw[x2];exact hpr
  ·have ek':k=n0+1:=by omega
   simp only[if_neg ek,if_pos ek']at hpr x1 x2 ⊢;rw[x1];exact hpr
 obtain⟨tag',f',gs',hr,htag,hf,hco⟩:=h.stepK (sl:=sl) (p':=p') (st':=st) (sm':=sm) hS hAr hOr hk hk' hg hgo hl.kids (hl.started n0) hpr' hM hkeep (by rw[hch];exact hc2) (hW.trans h.wg) hok
  (λ_ _ hi hle _ _=>.inr (.inr (j5f hdk hcl hi hle))) (by rw[j2c hcl,hl.ds];exact h.deafS) (by rw[j2c hcl,hl.dr];exact h.deafR) (by rw[hl.d];exact hrS) (by rw[hl.d];exact hrR)
  (h.modeSame λ_=>by rw[hl.d]) (λ_ hf=>j80 hl hn hf) (λe=>absurd e hout)
 refine⟨_,_,_,hr,?_,gs',w',sl,tag',f',d0,p',q,st,sm,rfl,hco,rfl⟩;rw[hl.d,j4z htag,hrank];exact Prod.Lex.right _ (by omega)
end
end Go.Proofs.Mn
