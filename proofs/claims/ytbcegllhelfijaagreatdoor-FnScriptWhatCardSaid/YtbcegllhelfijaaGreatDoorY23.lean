/-
  A part of the proof.
-/
import Derived.Test.YtbcegllhelfijaaGreatDoorY20
import Derived.Test.YtbcegllhelfijaaGreatDoorY22
set_option linter.all false
set_option maxRecDepth 100000
set_option maxHeartbeats 8000000
namespace Go.Proofs.T
open Lib (hid)
open Go.RowKit
theorem jbr {f:Nat->Option (List Key)}{x:List Key}:∀(r k:Nat),findUp f k r=some x->∃a,f a=some x
 | 0,k,h=>by simp[findUp]at h
 | r+1,k,h=>by
  rw[findUp]at h;cases hf:f k with
  | some y=>rw[hf]at h;exact⟨k,by rw[hf];exact h⟩
  | none=>rw[hf]at h;exact jbr r (k+1) h
theorem j7z {f:Nat->Option (List Key)}{x:List Key}:∀(m:Nat),findDown f m=some x->∃a,f a=some x
 | 0,h=>by simp[findDown]at h
 | k+1,h=>by
  rw[findDown]at h;cases hf:f k with
  | some y=>rw[hf]at h;exact⟨k,by rw[hf];exact h⟩
  | none=>rw[hf]at h;exact j7z k h
theorem VP.step {v:Int}{ks ls:List Key}(h:VP v ks)(hs:stepS ks=some ls):VP v ls:=by
 unfold stepS at hs;cases hu:findUp (passN ks) 0 (ks.length-1)with
 | some y=>
  rw[hu]at hs;obtain⟨a,ha⟩:=jbr _ _ hu;exact h.pass (by rw[ha];exact hs)
 | none=>
  rw[hu]at hs;obtain⟨a,ha⟩:=j7z _ hs;exact h.tell ha
theorem ji4 {O r' r:Res}{A B X:List Res}:(r'::(A++(O::r::(B++X)))).Perm (O::r'::(A++(X++(r::B)))):=by
 refine(List.perm_middle (l₁:=r'::A)).trans (List.Perm.cons _ (List.Perm.cons _ (List.Perm.append_left A ?_)));exact(List.perm_append_comm (l₁:=r::B) (l₂:=X))
def SettledE (w:World)(view:Int)(ks:List Key)(n:Nat)(e:Ending)(w':World):Prop:=
 ∃(a':Option Addr) (cap':Nat) (ms:List Nd),e=.returned (.tuple #[.agg #[.int .i64 view,.slice a' ms.length cap'],.int .i64 n])/\keys ms=ks/\St w w' (row (.slice a' ms.length cap') 60 3 ms.length (ncells ms)::nds ms)
theorem j68 (view:Int)(a:Option Addr)(cap:Nat)(ns:List Nd)(w:World)(hv:chainOk view ns=true)(hc:ns.length<=cap)(hx:NodesAt w a ns) :
  Calls tnp 41 #[.agg #[.int .i64 view,.slice a ns.length cap]] w (SettledE w view (settleK (keys ns)).1 (settleK (keys ns)).2):=by
 have s0:=((St.start w).alloc (.cells #[.int .i64 view,.slice a ns.length cap] 34)).allocAt (.cells #[.int .i64 0,.slice none 0 0] 34) (w.heap.size+1) (by simp);obtain⟨hm,hs,h1,h5,hl⟩:=okS hv;have CV:=jw view a cap ns _ hm hc hs (hx.below s0.below);rw[hv]at CV;have VPK:=hid (show VP view (keys ns)from j1p.1 (by rw[<- jt];exact hv));have SL:=hid (j51 VPK.out);have L4:=hid (λW (h:Below w.heap.size w W)=>j3n view a cap ns W h5 hl (hx.below h));clear hv hx hs hl;go_enter Twn.func41,Tryz.ntmps41
 go_wp2_with fail
 refine CV.mono ?_;rintro e w1 ⟨rfl,hb⟩;have s1:=s0.call hb;clear s0 hb CV;obtain⟨c1,_⟩:=s1.at1.cells;go_wp2_with fail
 refine(L4.out _ s1.below).mono ?_;rintro e w3 ⟨a3,cap3,ms,rfl,hkey,hml,ss⟩;have s2:=s1.join ss;have s3:=(s2.alloc (.cells #[.int .i64 view,.slice a3 ns.length cap3] 34));have KM:=hid hkey;have ML:=hid hml;clear s1 s2 ss c1 hkey hml;generalize hO:w3.heap.size=O at *;go_wp2_with fail
 go_loopw [5] (λi wr=>∃(n:Nat) (a':Option Addr) (cap':Nat) (ms:List Nd),n<=100/\i=.int .i64 n/\VP view (keys ms)/\loopS (101-n) (keys ms) n=settleS (keys ns)/\St w wr (box O #[.int .i64 view,.slice a' ms.length cap'] 34::row (.slice a' ms.length cap') 60 3 ms.length (ncells ms)::(nds ms++[box (w.heap.size+1) #[.int .i64 0,.slice none 0 0] 34,box w.heap.size #[.int .i64 view,.slice a ns.length cap] 34]))) (λi _=>101-(intOf i).toNat)
 case atStart=>exact⟨0,a3,cap3,ms,by omega,rfl,by rw[KM.out];exact VPK.out,by rw[KM.out];rfl,by rw[ML.out];simpa using s3⟩
 case round=>
  clear s3 ML KM;clear ms;obtain⟨n,a',cap',ms,hn,rfl,hvp,hloop,s1⟩:=hrel;have HL:=hid hloop;have VM:=hid hvp;have hcm:=j66 s1.drop.own;have L5:=hid (jh3 view a' cap' ms wr (by rw[jt];exact j1p.2 hvp) hcm (j1s (X:=[box (w.heap.size+1) #[.int .i64 0,.slice none 0 0] 34,box w.heap.size #[.int .i64 view,.slice a ns.length cap] 34]) s1 rfl));obtain⟨c1,_⟩:=s1.cells;have j1:(n:Int)<=100:=by omega
  clear hloop hvp hcm;go_wp2_with fail
  refine L5.out.mono ?_;intro e w2 hg;cases hp:stepS (keys ms)with
  | none=>
   rw[hp]at hg;have FO:Hid ((keys ms,n)=settleK (keys ns)):=hid (by
    rw[<- SL.out.1,<- HL.out,show 101-n=(100-n)+1 by omega];exact(je6 hp).symm)
   obtain⟨a2,n2,cap2,X,rfl,ss,_⟩:=j34 hg;have s2:=(s1.join ss).tail;have s3:=(s2.alloc (.cells #[.int .i64 0,.slice a2 n2 cap2] 34)).drop;obtain⟨cO,cR,fR,qR,t1,q0,t0⟩:=j1u (A:=nds ms) (X:=[box w.heap.size #[.int .i64 view,.slice a ns.length cap] 34]) s3;have FIN:=hid (St.take (row (.slice a' ms.length cap') 60 3 ms.length (ncells ms)::nds ms) _ rfl t1);clear hp hg ss s1 s2 s3 c1 t1 t0 q0;go_wp2_with fail
   rw[<- FO.out];exact bodyPost_ret (v:=.tuple #[.agg #[.int .i64 view,.slice a' ms.length cap'],.int .i64 n]) (by simp[results,Tryz.results41,go_sem,qR]) rfl ⟨a',cap',ms,rfl,rfl,FIN.out⟩
  | some ls=>
   rw[hp]at hg;obtain⟨a2,cap2,ms2,rfl,hkey,ss⟩:=hg;have HP:=hid hp;have KE:=hid hkey;have LS:Hid (loopS (101-(n+1)) ls (n+1)=settleS (keys ns)):=hid (by
    rw[<- HL.out,show 101-n=(101-(n+1))+1 by omega];exact(j97 hp).symm)
   have hn1:n+1<=100:=by
    rcases Nat.lt_or_ge n 100 with h|h
    ·exact h
    ·exfalso;have e:=LS.out;rw[show 101-(n+1)=0 by omega,SL.out.1]at e;have e2:=SL.out.2.2.2;rw[<- e]at e2;simp[loopS]at e2;omega
   have s2:=s1.join ss;have s3:=(s2.alloc (.cells #[.int .i64 view,.slice a2 ms2.length cap2] 34));have z2:=s2.size;have s4:=s3.drop.perm ji4;obtain⟨c3,_⟩:=s3.cells;obtain⟨c4,f4⟩:=s4.cells;have s5:=(s4.set 0 (.int .i64 view)).set 1 (.slice a2 ms2.length cap2);have FIN:=hid (St.take (box O #[.int .i64 view,.slice a2 ms2.length cap2] 34::row (.slice a2 ms2.length cap2) 60 3 ms2.length (ncells ms2)::(nds ms2++[box (w.heap.size+1) #[.int .i64 0,.slice none 0 0] 34,box w.heap.size #[.int .i64 view,.slice a ns.length cap] 34])) (row (.slice a' ms.length cap') 60 3 ms.length (ncells ms)::nds ms) (by simp) s5);clear hp hkey ss s1 s2 s3 s4 s5 c1;go_wp2_with fail
   go_roundw
   case rel=>exact⟨n+1,a2,cap2,ms2,hn1,by go_num,by rw[KE.out];exact VM.out.step HP.out,by rw[KE.out];exact LS.out,by
    exact FIN.out⟩
   case measure=>simp[intOf];omega
theorem jc0 (view:Int)(a:Option Addr)(cap:Nat)(ns:List Nd)(x:Int)(w:World)(hm:ns.length<=1099511627776)(hx:NodesAt w a ns) :
  Calls tnp 88 #[.agg #[.int .i64 view,.slice a ns.length cap],.int .i64 x] w λe w'=>e=.returned (.int .i64 (cplace ns x))/\Below w.heap.size w w':=by
 have s0:=(St.start w).alloc (.cells #[.int .i64 view,.slice a ns.length cap] 34);go_enter Twn.func88,Tryz.ntmps88
 go_wp2_with fail
 go_loopw [5] (λi wr=>∃k:Nat,k<=ns.length/\i=.int .i64 k/\(∀j,j<k->(nd ns j).id≠x)/\St w wr [box w.heap.size #[.int .i64 view,.slice a ns.length cap] 34]) (λi _=>ns.length-(intOf i).toNat)
 case atStart=>exact⟨0,Nat.zero_le _,rfl,by intro j hj;omega,s0⟩
 case round=>
  clear s0;obtain⟨k,hk,rfl,hno,s1⟩:=hrel;have HN:=hid hno;clear hno;have b0:=s1.boxIn (V:=w.heap.size) (cs:=#[.int .i64 view,.slice a ns.length cap]) (t:=34) (by simp) 1 rfl;have HB:=hid s1.below;have FIN:=hid s1;by_cases hlt:k<ns.length
  ·obtain⟨b,off,rfl,c0,c1,c2⟩:=(hx.below s1.below).cells k hlt;have i1:(0:Int)<=(k:Int):=by omega
   have i2:(k:Int)<(ns.length:Int):=by omega
   have YES:=hid (λh=>j7p k hlt h HN.out);have NO:Hid ((nd ns k).id≠x->∀j,j<k+1->(nd ns j).id≠x):=hid (λh j hj=>by
    by_cases e:j=k
    ·rw[e];exact h
    ·exact HN.out j (by omega))
   clear c1 c2 s1;generalize(nd ns k).id=p at *;by_cases he:p=x
   ·have Y:=hid (YES.out he);subst he;go_wp2_with fail
    go_ret
    exact⟨by rw[Y.out];rfl,HB.out⟩
   ·have N:=hid (NO.out he);have he':(p==x)=false:=by simpa using he
    clear he;go_wp2_with fail
    go_roundw
    case rel=>exact⟨k+1,hlt,by go_num,N.out,FIN.out⟩
    case measure=>simp[intOf];omega
  ·have Y:Hid (cplace ns x=-1):=hid (j5a λj hj=>HN.out j (by omega));clear s1;go_wp2_with fail
   go_ret
   exact⟨by rw[Y.out];rfl,HB.out⟩
theorem j6q (view:Int)(a:Option Addr)(cap:Nat)(ns:List Nd)(w:World)(hv:chainOk view ns=true)(hc:ns.length<=cap)(hx:NodesAt w a ns) :
  Calls tnp 29 #[.agg #[.int .i64 view,.slice a ns.length cap]] w λe w'=>e=.returned (.bool (quietK (keys ns)))/\Below w.heap.size w w':=by
 have s0:=(St.start w).alloc (.cells #[.int .i64 view,.slice a ns.length cap] 34);obtain⟨hm,hs,h1,h5,hl⟩:=okS hv;have CV:=hid (λW (h:Below w.heap.size w W)=>hv▸jw view a cap ns W hm hc hs (hx.below h));have HX:=hid (λW (h:Below w.heap.size w W)=>hx.below h);have QI:=hid (j9d (ns:=ns));have QN:=hid (λj=>jhw (ns:=ns) (j:=j));clear hv;go_enter Twn.func29,Tryz.ntmps29
 go_wp2_with fail
 obtain⟨b,off,rfl,p0,p1,p2⟩:=(HX.out _ s0.below).cells 0 (by omega);generalize hL:(nd ns 0).us.length=L at *;clear p0 p1 p2 hx
 go_loopw [3] (λi wr=>∃k:Nat,k<=ns.length/\i=.int .i64 k/\(∀j,j<k->(nd ns j).us.length=L/\(nd ns j).done=(L:Nat))/\St w wr [box w.heap.size #[.int .i64 view,.slice (some ⟨b,off,none⟩) ns.length cap] 34]) (λi _=>ns.length-(intOf i).toNat)
 case atStart=>exact⟨0,Nat.zero_le _,rfl,λj hj=>absurd hj (by omega),s0⟩
 case round=>
  clear s0;obtain⟨k,hk,rfl,hj,s1⟩:=hrel;have HJ:=hid hj;clear hj;obtain⟨x0,_⟩:=s1.cells;by_cases hlt:k<ns.length
  ·have i1:(0:Int)<=(k:Int):=by omega
   have i2:(k:Int)<(ns.length:Int):=by omega
   go_wp2_with fail
   refine(CV.out _ s1.below).mono ?_;rintro e w1 ⟨rfl,hb⟩;have s2:=s1.call hb;clear s1 hb x0;obtain⟨b',off',e',c0,c1,c2⟩:=(HX.out _ s2.below).cells k hlt;cases e';obtain⟨b',off',e',p0,p1,p2⟩:=(HX.out _ s2.below).cells 0 (by omega);cases e';rw[hL]at p1;have QNK:=hid (QN.out k hlt);have NX:Hid ((nd ns k).us.length=L->(nd ns k).done=(L:Nat)->∀j,j<k+1->(nd ns j).us.length=L/\(nd ns j).done=(L:Nat)):=hid (λh1 h2 j hj=>by
    by_cases e:j=k
    ·subst e;exact⟨h1,h2⟩
    ·exact HJ.out j (by omega))
   clear c0 p0 p2;rcases hN:nd ns k with⟨q,y,c,us,d⟩;rw[hN]at c1 c2 QNK NX;dsimp only at c1 c2 QNK NX;clear hN
   go_upto_region 4 with fail
   have k1:=(s2.cells.1 1).trans (show _=some (Value.slice (some ⟨b,off,none⟩) ns.length cap)from rfl);have g0:=jf k1;have g1:=jf c1;have g2:=jf c2;have g3:=jf p1;have HG:=hid (λx:Grown w1=>s2.call (j1b x));clear k1 c1 c2 p1 s2;by_cases e1:us.length=L
   ·have m1:((us.length:Int) != (L:Int))=false:=by simp[e1]
    by_cases e2:d=(L:Nat)
    ·have NX2:=hid (NX.out e1 e2);have m2:(d != (L:Int))=false:=by simp[e2]
     clear e1 e2 QNK NX;refine jm (by kernel_rfl) (by kernel_rfl) ?_;repeat (go_big_quiet_step ((fail)))
     refine wpQuiet_nil ?_;rintro _ ⟨x,rfl⟩;have FIN:=hid (HG.out x);generalize grow w1 x=w2 at *;clear g0 g1 g2 g3 HG;go_wp2_with fail
     go_roundw
     case rel=>exact⟨k+1,hlt,by go_num,NX2.out,FIN.out⟩
     case measure=>simp[intOf];omega
    ·have m2:(d != (L:Int))=true:=by simp[e2]
     have Q:=hid (QNK.out λh=>e2 h.2);clear e1 e2 QNK NX;refine jm (by kernel_rfl) (by kernel_rfl) ?_;repeat (go_big_quiet_step ((fail)))
     refine wpQuiet_nil ?_;rintro _ ⟨x,rfl⟩;have FIN:=hid (HG.out x).below;generalize grow w1 x=w2 at *;clear g0 g1 g2 g3 HG;go_wp2_with fail
     go_ret
     exact⟨by rw[Q.out];rfl,FIN.out⟩
   ·have m1:((us.length:Int) != (L:Int))=true:=by simp;omega
    have Q:=hid (QNK.out λh=>e1 h.1);clear e1 QNK NX;refine jm (by kernel_rfl) (by kernel_rfl) ?_;repeat (go_big_quiet_step ((fail)))
    refine wpQuiet_nil ?_;rintro _ ⟨x,rfl⟩;have FIN:=hid (HG.out x).below;generalize grow w1 x=w2 at *;clear g0 g1 g2 g3 HG;go_wp2_with fail
    go_ret
    exact⟨by rw[Q.out];rfl,FIN.out⟩
  ·obtain rfl:k=ns.length:=by omega
   have Q:=hid (QI.out.2 HJ.out);go_wp2_with fail
   refine(CV.out _ s1.below).mono ?_;rintro e w1 ⟨rfl,hb⟩;have FIN:=hid (s1.call hb).below;clear s1 hb x0;go_wp2_with fail
   go_ret
   exact⟨by rw[Q.out];rfl,FIN.out⟩
def putAt:List Value->Nat->List Value->List Value
 | xs,_,[]=>xs
 | xs,j,u::r=>putAt (xs.set j u) (j+1) r
theorem jll:∀(news xs:List Value)(j:Nat),j+news.length<=xs.length->putAt xs j news=xs.take j++(news++xs.drop (j+news.length))
 | [],xs,j,_=>by simp[putAt]
 | u::r,xs,j,h=>by
  have hj:j<xs.length:=by simp at h;omega
  have e1:(xs.set j u).take (j+1)=xs.take j++[u]:=by
   rw[List.take_add_one,List.take_set_of_le (Nat.le_refl _)];simp[hj]
  have e2:(xs.set j u).drop (j+1+r.length)=xs.drop (j+1+r.length):=List.drop_set_of_lt (by omega);rw[putAt,jll r (xs.set j u) (j+1) (by simp at h ⊢;omega),e1,e2];simp[Nat.add_assoc,Nat.add_comm 1]
theorem St.rowSets {w0:World}{rs:List Res}{g n cap size:Nat}{e:TypeId}:∀(news xs:List Value)(j:Nat)(w:World),St w0 w (row (.slice (some ⟨g,0,none⟩) n cap) e size n xs::rs)->St w0 (w.setCells g j news) (row (.slice (some ⟨g,0,none⟩) n cap) e size n (putAt xs j news)::rs)
 | [],_,_,_,h=>h
 | u::r,xs,j,w,h=>by
  rw[World.setCells,putAt];exact St.rowSets r _ (j+1) _ (h.rowSet j u)
theorem St.shrink {w0 w:World}{rs:List Res}{g n cap size m:Nat}{e:TypeId}{xs:List Value}(h:St w0 w (row (.slice (some ⟨g,0,none⟩) n cap) e size n xs::rs))(hm:m<=n):St w0 w (row (.slice (some ⟨g,0,none⟩) m cap) e size m (xs.take (m*size))::rs):=by
 obtain⟨⟨hl,hx⟩,h2,h3,h4⟩:=h;refine⟨⟨?_,?_⟩,h2,h3,h4⟩
 ·have:=Nat.mul_le_mul_right size hm;rw[List.length_take,hl];omega
 ·rcases hx with⟨e,_⟩|⟨g',cap',cur,e,h5,h6,h7,h8,h9⟩
  ·cases e
  ·cases e;refine .inr ⟨g,cap,cur,rfl,h5,by omega,h7,h8,?_⟩;have:=Nat.mul_le_mul_right size hm;rw[<- h9,List.take_take,Nat.min_eq_left this]
section
variable {P:Program}{w:World}{o:Oper}{a:Act}
theorem jo8 {K:Act->World->Prop}{Q:Exit->Act->World->Prop}{t e:TypeId}{size bytes:Nat}(he:Elem P t e size bytes)(s x:Operand)
  (ho:o.op=.call { callee:=.builtin .append,args:=#[s,x],argTypes:=#[t,t] })(g n cap:Nat)(hs:a.eval s=.slice (some ⟨g,0,none⟩) n cap)
  (ad:Addr)(m c:Nat)(news:List Value)(hx:a.eval x=.slice (some ad) m c)(hl:news.length=m*size)(hc:∀j u,news[j]?=some u->w.cell? (ad.add j)=some u)(h1:∀u∈news,u.oneCell'=true)
  (hroom:n+m<=cap)(hsp:∀j,j<news.length->(w.cell? ⟨g,n*size+j,none⟩).isSome=true/\w.frozen? ⟨g,n*size+j,none⟩=false)
  (h:K (a.put o.dst (.slice (some ⟨g,0,none⟩) (n+m) cap)) (w.setCells g (n*size) news)):o.wp P a w K Q:=by
 obtain⟨ht,i,z,hi,hz,hsize,hb,hzs,hsz⟩:=he;subst hsize;have hrun:=run_append_room_cells (P:=P) w t o.type e i ht hi g 0 n cap ad m c news hl hc h1 hroom (λj hj=>by rw[Nat.zero_add];exact(hsp j hj).1) (λj hj=>by rw[Nat.zero_add];exact(hsp j hj).2);rw[Nat.zero_add]at hrun;unfold Oper.wp;simp[execOp,ho,resolve,invoke,builtin,hs,hx,hrun,Result.andThen];exact h
end
theorem j9z (ns:List Nd)(k:Nat)(hk:k<ns.length):(ncells ns).take (k*3)=ncells (ns.take k)/\(ncells ns).drop ((k+1)*3)=ncells (ns.drop (k+1)):=by
 constructor
 ·conv=>lhs;rw[<- List.take_append_drop k ns,j20]
  rw[List.take_left' (by rw[j1a,List.length_take];omega)]
 ·conv=>lhs;rw[<- List.take_append_drop (k+1) ns,j20]
  rw[List.drop_left' (by rw[j1a,List.length_take];omega)]
theorem jhf (ns:List Nd)(k:Nat)(hk:k<ns.length):(putAt (ncells ns) (k*3) (ncells (ns.drop (k+1)))).take ((ns.length-1)*3)=ncells (ns.eraseIdx k):=by
 have h1:(ncells (ns.drop (k+1))).length=(ns.length-(k+1))*3:=by rw[j1a,List.length_drop]
 have h2:(ncells ns).length=ns.length*3:=j1a ns;rw[jll _ _ _ (by omega),(j9z ns k hk).1,<- List.append_assoc,<- j20,List.eraseIdx_eq_take_drop_succ];rw[List.take_left' (by rw[j1a,List.length_append,List.length_take,List.length_drop];omega)]
theorem jqp (ns:List Nd)(k:Nat)(hk:k<ns.length):(nds ns).Perm (nds (ns.eraseIdx k)++[logRes (nd ns k)]):=by
 have h:ns.Perm (ns[k]::ns.eraseIdx k):=by
  conv=>lhs;rw[<- List.take_append_drop k ns,List.drop_eq_getElem_cons hk]
  rw[List.eraseIdx_eq_take_drop_succ];exact List.perm_middle
 rw[j3o hk];exact(h.map logRes).trans (List.perm_append_comm (l₁:=[logRes ns[k]]))
open Lib (hid)
open Go.RowKit
theorem jt4 (ks:List Key):(fixK ks).length=ks.length:=by simp[fixK]
theorem jn6 {v:Int}{ks:List Key}(h:ks.length=0):guardK v ks=none:=by
 cases hg:guardK v ks with
 | none=>rfl
 | some l=>
  exfalso;unfold guardK at hg;split at hg
  ·rename_i ho
   have:=(j1p.1 ho).2.1.1;omega
  ·cases hg
theorem jpe {v x:Int}{ks:List Key}(h:ks.length=1):dropK v ks x=none:=by
 unfold dropK;by_cases hp:0<=place (ks.map (·.1)) x
 ·rw[if_pos hp];obtain⟨i,hi,_,e⟩:=j6j hp;simp at hi;refine jn6 ?_;rw[jt4,e,Int.toNat_natCast,List.length_eraseIdx,if_pos hi,h]
 ·rw[if_neg hp]
theorem jsz {v x:Int}{ns:List Nd}{k:Nat}(h:cplace ns x=k):dropK v (keys ns) x=guardK (v+1) (fixK ((keys ns).eraseIdx k)):=by
 have e:place ((keys ns).map (·.1)) x=k:=by rw[j83];exact h
 unfold dropK;rw[e,if_pos (by omega),Int.toNat_natCast]
theorem jpd {v x:Int}{ns:List Nd}(h:cplace ns x<0):dropK v (keys ns) x=none:=by
 unfold dropK;rw[if_neg];rw[j83];show¬0<=cplace ns x;omega
theorem jcq {ns ms:List Nd}{m:Nat}(h:keys ms=keys ns)(hs:Short ns m):Short ms m:=λn hn=>by
 obtain⟨i,hi,rfl⟩:=List.getElem_of_mem hn;have hl:ms.length=ns.length:=by rw[<- j17 ms,h,j17]
 have e:=(j4r h i).2.1;rw[j3o hi]at e;rw[e];exact hs.at (by omega)
theorem joj (ns:List Nd):∀u∈ncells ns,u.oneCell'=true:=by
 intro u hu;simp only[ncells,List.mem_flatMap]at hu;obtain⟨n,_,h⟩:=hu;simp at h;rcases h with rfl|rfl|rfl<;>rfl
theorem jo1 {ns:List Nd}{m:Nat}(h0:0<ns.length)(hs:Short ns m):Short (fixTail ns) m:=ji5 hs (hs.at (by omega))
theorem j77 (view:Int)(a:Option Addr)(cap:Nat)(ns:List Nd)(x:Int)(w:World)(hv:chainOk view ns=true)(hc:ns.length<=cap)(hx:NodesAt w a ns) :
  Calls tnp 67 #[.agg #[.int .i64 view,.slice a ns.length cap],.int .i64 x] w (GaveO w (view+1) (dropK view (keys ns) x)):=by
 have s0:=((St.start w).alloc (.cells #[.int .i64 view,.slice a ns.length cap] 34)).allocAt (.cells #[.int .i64 0,.slice none 0 0] 34) (w.heap.size+1) (by simp);obtain⟨hm,hs,h1,h5,hl⟩:=okS hv;have hv0:=(j1p.1 (by rw[<- jt];exact hv):VP view (keys ns)).1;have AT:=jc0 view a cap ns x _ hm (hx.below s0.below);have CV:=hid (λW (h:Below w.heap.size w W)=>hv▸jw view a cap ns W hm hc hs (hx.below h));have L4:=hid (λW (h:Below w.heap.size w W)=>j3n view a cap ns W h5 hl (hx.below h));have DN:=hid (λh=>jpd (v:=view) (x:=x) (ns:=ns) h);have DA:=hid (λk h=>jsz (v:=view) (x:=x) (ns:=ns) (k:=k) h);have D1:=hid (λh=>jpe (v:=view) (x:=x) (ks:=keys ns) h);have CL:=hid (jbm (ns:=ns) (x:=x));generalize dropK view (keys ns) x=o at *;generalize cplace ns x=cp at *;have HSH:=hid hs;clear hv hx hs hl;go_enter Twn.func67,Tryz.ntmps67
 go_wp2_with fail
 refine AT.mono ?_;rintro e w1 ⟨rfl,hb⟩;have s1:=s0.call hb;clear s0 hb AT;obtain⟨c1,_⟩:=s1.at1.cells;go_wp2_with fail
 refine(CV.out _ s1.below).mono ?_;rintro e w2 ⟨rfl,hb⟩;have s2:=s1.call hb;clear s1 hb c1;obtain⟨c1,_⟩:=s2.at1.cells;by_cases hp:cp<0
 ·have FO:=hid (DN.out hp);obtain⟨c3,f3⟩:=s2.cells;have s3:=(s2.set 0 (.int .i64 0)).set 1 (.slice none 0 0);have q2:=s3.cells.1;have FIN:=hid (j1n (view:=view+1) FO.out (gaveNone s3 rfl rfl rfl));clear s2 s3;go_wp2_with fail
  exact bodyPost_ret (v:=.tuple #[.agg #[.int .i64 0,.slice none 0 0],.bool false]) (by simp[results,Tryz.results67,go_sem,q2]) rfl FIN.out
 ·by_cases hn1:ns.length=1
  ·have FO:=hid (D1.out (by rw[j17];exact hn1));obtain⟨c3,f3⟩:=s2.cells;have s3:=(s2.set 0 (.int .i64 0)).set 1 (.slice none 0 0);have q2:=s3.cells.1;have e1:((ns.length:Int)==1)=true:=by simp[hn1]
   have FIN:=hid (j1n (view:=view+1) FO.out (gaveNone s3 rfl rfl rfl));clear s2 s3;go_wp2_with fail
   exact bodyPost_ret (v:=.tuple #[.agg #[.int .i64 0,.slice none 0 0],.bool false]) (by simp[results,Tryz.results67,go_sem,q2]) rfl FIN.out
  ·obtain⟨k,hk,rfl⟩:=CL.out (by omega);have FO:=hid (DA.out k rfl);have e1:((ns.length:Int)==1)=false:=by simp;omega
   clear DN DA D1 CL hp;have hp:¬((k:Int)<0):=by omega
   go_wp2_with fail
   refine(L4.out _ s2.below).mono ?_;rintro e w3 ⟨G0,capG,ms,rfl,hkey,hml,ss⟩;have s3:=s2.join ss;obtain⟨G,cG,eG,_,_⟩:=s3.own.form (by omega);cases eG;simp only[List.cons_append]at s3;have hcap:=j66 s3.own;have s4:=(s3.alloc (.cells #[.int .i64 view,.slice (some ⟨G,0,none⟩) ns.length capG] 34));clear c1 ss s3 s2;generalize hO:w3.heap.size=O at *
   go_upto_region 5 with fail
   generalize hW0:w3.alloc (.cells #[.int .i64 view,.slice (some ⟨G,0,none⟩) ns.length capG] 34 (0,0))=w4 at *;obtain⟨c2,f2⟩:=s4.cells;obtain⟨c3,_⟩:=(s4.pull (r:=box w.heap.size #[.int .i64 view,.slice a ns.length cap] 34) (by simp)).cells;have s5:=s4.set 0 (.int .i64 (view+1))
   go_upto_region 6 with fail
   generalize hW:w4.setCell ⟨O,0,none⟩ (.int .i64 (view+1))=w5 at *;clear hW hW0 c2 f2 c3 s4;have i1:(0:Int)<=(k:Int):=by omega
   have i2:(k:Int)<=(capG:Int):=by omega
   have i3:(k:Int)+1<=(ns.length:Int):=by omega
   have i4:(0:Int)<=(k:Int)+1:=by omega
   have SM:=hid (jcq hkey (HSH.out));have LK:=hid (show keys (fixTail (ms.eraseIdx k))=fixK ((keys ns).eraseIdx k) by rw[<- hkey];exact jh5 ms k);have km:k<ms.length:=by omega
   have hel:(ms.eraseIdx k).length=ns.length-1:=by rw[List.length_eraseIdx,if_pos km,hml]
   have NW:=hid (show∃A:Addr,(if capG=k+1 then some (⟨G,0,none⟩:Addr)else some ⟨G,(k+1)*3,none⟩)=some A/\∀j u,(ncells (ms.drop (k+1)))[j]?=some u->w5.drew.cell? (A.add j)=some u from by
    by_cases hcc:capG=k+1
    ·refine⟨⟨G,0,none⟩,if_pos hcc,λj u hu=>?_⟩;have hz:ms.length-(k+1)=0:=by omega
     have:=(List.getElem?_eq_some_iff.1 hu).1;rw[j1a,List.length_drop,hz]at this;omega
    ·refine⟨⟨G,(k+1)*3,none⟩,if_neg hcc,λj u hu=>?_⟩;have hj:=(List.getElem?_eq_some_iff.1 hu).1;rw[j1a,List.length_drop]at hj;rw[Addr.add_lit];have ec:=s5.drew.drop.own.cellAt ((k+1)*3+j) (by omega);rw[ec,<- hu,<- (j9z ms k km).2,List.getElem?_drop])
   obtain⟨S,hS⟩:=Mix.named (λw'=>w'.cell? ⟨O,1,none⟩=some (.slice (some ⟨G,0,none⟩) ns.length capG));have HS:=hid hS;have e0:=Mix.held_cell (λw h=>((hS w).1 h));clear hS;have SO:=hid (λW rr (hr:box O #[.int .i64 (view+1),.slice (some ⟨G,0,none⟩) ns.length capG] 34∈rr) (s:St w W rr)=>by
    have a0:=cell_of_heap (o:=1) (s.pull hr).boxAt;simp at a0;exact(HS.out W).2 a0)
   have s6:=s5.drew;refine Mix.start S 11 (by kernel_rfl) ?_;generalize w5.drew=w6 at *;clear s5;refine Mix.take [0,1,2,3,4,5,6,7,8] 3 (by kernel_rfl) (by kernel_rfl) (by kernel_rfl) (by intro c a a' w e h;exact⟨e.symm.trans h.1,h.2⟩) (SO.out _ _ (by simp) s6) ?_;intro hne;simp only[Mix.pickOps,List.filterMap_cons,List.filterMap_nil,List.getElem?_toArray,List.getElem?_cons_zero,List.getElem?_cons_succ];repeat (refine Mix.cons_form ?_;go_big_quiet_step (fail))
   refine wpQuiet_nil ?_;clear hne;refine Mix.step (i:=9) (by kernel_rfl) rfl rfl ?_;obtain⟨A,hA,hnew⟩:=NW.out;have NL:(ncells (ms.drop (k+1))).length=(ns.length-(k+1))*3:=by rw[j1a,List.length_drop,hml]
   have ML:(ncells ms).length=ns.length*3:=by rw[j1a,hml]
   have s7:=((St.rowSets (ncells (ms.drop (k+1))) _ (k*3) _ s6.at1).shrink (m:=ns.length-1) (by omega)).at1;rw[<- hml,jhf ms k km,hml,<- hel]at s7;have en:k+(ns.length-(k+1))=(ms.eraseIdx k).length:=by omega
   refine jo8 j3m _ _ (by rfl) G k capG (by rfl) A (ns.length-(k+1)) (capG-(k+1)) (ncells (ms.drop (k+1))) (by rw[<- hA];rfl) NL hnew (joj _) (by omega) (λj hj=>⟨by rw[s6.at1.own.cellAt (k*3+j) (by omega)];simp;omega,s6.at1.own.frozenAt (k*3+j)⟩) ?_;rw[en];have FS:=hid (SO.out _ _ (by simp) s7);refine And.intro (.inr FS.out) ?_;generalize hW7:w6.setCells G (k*3) (ncells (ms.drop (k+1)))=w7 at *;have SL:=hid (jo1 (by omega:0<(ms.eraseIdx k).length) (λn hn=>SM.out n (List.mem_of_mem_eraseIdx hn)));have s8:=s7.perm (List.Perm.cons _ (List.Perm.cons _ (List.Perm.append_right _ (jqp ms k km))));have LEN:=hid hel;clear s6 hW7 NL ML hnew NW SO s7 km en hel;generalize ms.eraseIdx k=ls at *;generalize logRes (nd ms k)=lost at *;rw[List.append_assoc]at s8;go_simp;refine Mix.step (i:=10) (by kernel_rfl) rfl rfl ?_;go_simp;refine And.intro FS.out ?_;refine Mix.step (i:=11) (by kernel_rfl) rfl rfl ?_;obtain⟨c2,f2⟩:=s8.cells;have s9:=s8.set 1 (.slice (some ⟨G,0,none⟩) ls.length capG);go_simp;refine Mix.done (by kernel_rfl) ?_;generalize hW9:w7.setCell ⟨O,1,none⟩ (.slice (some ⟨G,0,none⟩) ls.length capG)=w9 at *;clear c2 f2 s8 hW9 FS HS e0;have s10:St w w9 (box O #[.int .i64 (view+1),.slice (some ⟨G,0,none⟩) ls.length capG] 34::row (.slice (some ⟨G,0,none⟩) ls.length capG) 60 3 ls.length (ncells ls)::(nds ls++(box (w.heap.size+1) #[.int .i64 0,.slice none 0 0] 34::[box w.heap.size #[.int .i64 view,.slice a ns.length cap] 34,lost]))):=by
    refine St.perm ?_ s9;refine List.Perm.cons _ (List.Perm.cons _ (List.Perm.append_left _ ?_));exact(List.perm_append_comm (l₁:=[lost]))
   clear s9;have hq:1<=ls.length:=by have:=LEN.out;omega
   have hq5:ls.length<=5:=by have:=LEN.out;omega
   obtain⟨q,hq⟩:∃q,ls.length=q+1:=⟨ls.length-1,by omega⟩;have LQ:=hid hq;have eq:(ls.length:Int)-1=(q:Int):=by omega
   have j1:(0:Int)<=(q:Int):=by omega
   have j2:(q:Int)<(ls.length:Int):=by omega
   obtain⟨z0,z1,z2⟩:=j2a ls q (by omega);have nl:(ncells ls).length=ls.length*3:=j1a _;rw[<- s10.drop.own.cellAt (q*3+1) (by omega)]at z1;rw[<- s10.drop.own.cellAt (q*3+2) (by omega)]at z2;have f2:=s10.drop.own.frozenAt (q*3+2);have ul:(nd ls q).us.length<=1099511627776:=(SL.out.at (j:=q) (by rw[j1r];omega)) |> λh=>by rwa[jn2]at h
   have s11:=(s10.drew.at1.rowSet (q*3+2) (.int .i64 (nd ls q).us.length)).at1;rw[j3f ls q _ (by omega)]at s11;have FT:Hid (ls.set q { nd ls q with done:=(nd ls q).us.length }=fixTail ls):=hid (by unfold fixTail;rw[show ls.length-1=q by omega]);have FN:Hid (nds (fixTail ls)=nds ls):=hid (by rw[<- FT.out];exact jc8 rfl);rw[FT.out,<- FN.out]at s11;obtain⟨c1,_⟩:=s10.cells;have c10:=(c1 0).trans (show _=some (Value.int .i64 (view+1))from rfl);have c11:=(c1 1).trans (show _=some (Value.slice (some ⟨G,0,none⟩) ls.length capG)from rfl);clear hq c1 z0 nl s10;generalize(nd ls q).us.length=U at *;generalize(nd ls q).a=A1 at *;generalize(nd ls q).cap=C1 at *;generalize hW:w9.drew.setCell ⟨G,q*3+2,none⟩ (.int .i64 U)=W at s11;have FL:(fixTail ls).length=ls.length:=j1r ls;have hlc:ls.length<=capG:=by have:=LEN.out;omega
   have SL2:=SL.out;have LK2:=LK.out;clear FT FN SL LK LQ LEN SM;generalize fixTail ls=fs at *;have CW:=jw (view+1) (some ⟨G,0,none⟩) capG fs W (by omega) (by omega) SL2 (j1s (X:=box (w.heap.size+1) #[.int .i64 0,.slice none 0 0] 34::[box w.heap.size #[.int .i64 view,.slice a ns.length cap] 34,lost]) (O:=O) (cs:=#[.int .i64 (view+1),.slice (some ⟨G,0,none⟩) ls.length capG]) (t:=34) (by rw[FL];exact s11) rfl);rw[FL]at CW;have GK:o=if chainOk (view+1) fs=true then some (keys fs)else none:=by
    rw[FO.out,<- LK2,jt];rfl
   have HG:=hid GK;obtain⟨b,hb⟩:∃b,chainOk (view+1) fs=b:=⟨_,rfl⟩;rw[hb]at CW HG;have CX:=hid CW;have S11:=hid s11;have FLH:=hid FL;clear CW GK hb FO SL2 LK2 FL s11
   go_upto_region 8 with fail
   go_region
   clear hW z1 z2 f2 c10 c11;obtain⟨c1,_⟩:=S11.out.cells;go_wp2_with fail
   refine CX.out.mono ?_;rintro e w12 ⟨rfl,hb⟩;have s12:=S11.out.call hb;obtain⟨cO,cR,fR,qR,t1,q0,t0⟩:=j1u s12;clear c1 hb;cases b with
   | false=>
    have FIN:=hid (j1n (view:=view+1) (show o=none from HG.out) (gaveNone t0 rfl rfl rfl));clear t1 t0 qR s12;go_wp2_with fail
    exact bodyPost_ret (v:=.tuple #[.agg #[.int .i64 0,.slice none 0 0],.bool false]) (by simp[results,Tryz.results67,go_sem,q0]) rfl FIN.out
   | true=>
    have FIN:=hid (j2d (view:=view+1) (show o=some (keys fs)from HG.out) (gaveSome t1 FLH.out.symm rfl));clear t1 t0 q0 s12;go_wp2_with fail
    exact bodyPost_ret (v:=.tuple #[.agg #[.int .i64 (view+1),.slice (some ⟨G,0,none⟩) ls.length capG],.bool true]) (by simp[results,Tryz.results67,go_sem,qR]) rfl FIN.out
theorem juz {v x:Int}{ns:List Nd}{q:Nat}{us:List Upd}(hq:ns.length=q+1)(hu:(nd ns q).us=us):addK v (keys ns) x=guardK (v+1) (keys ns++[(x,us,(us.length:Int))]):=by
 unfold addK klog;rw[j17,hq,Nat.add_sub_cancel,j25];subst hu;rfl
theorem joi {O N L T:Res}{A X:List Res}:(O::N::L::(A++(T::X))).Perm (O::N::((A++[L])++(X++[T]))):=by
 refine List.Perm.cons _ (List.Perm.cons _ ?_);rw[List.append_assoc];refine(List.perm_middle (l₁:=A) (a:=L)).symm.trans (List.Perm.append_left A (List.Perm.cons _ ?_));exact(List.perm_append_comm (l₁:=[T]) (l₂:=X))
theorem j8f (view:Int)(a:Option Addr)(cap:Nat)(ns:List Nd)(x:Int)(w:World)(hv:chainOk view ns=true)(hc:ns.length<=cap)(hx:NodesAt w a ns) :
  Calls tnp 68 #[.agg #[.int .i64 view,.slice a ns.length cap],.int .i64 x] w (GaveO w (view+1) (addK view (keys ns) x)):=by
 have s0:=((St.start w).alloc (.cells #[.int .i64 view,.slice a ns.length cap] 34)).allocAt (.cells #[.int .i64 0,.slice none 0 0] 34) (w.heap.size+1) (by simp);obtain⟨hm,hs,h1,h5,hl⟩:=okS hv;have hvp:=(j1p.1 (by rw[<- jt];exact hv):VP view (keys ns));have hv0:=hvp.1;have CV:=jw view a cap ns _ hm hc hs (hx.below s0.below);rw[hv]at CV;have L4:=hid (λW (h:Below w.heap.size w W)=>j3n view a cap ns W h5 hl (hx.below h));obtain⟨q,hq⟩:∃q,ns.length=q+1:=⟨ns.length-1,by omega⟩;have hqn:q<ns.length:=by omega
 have DL:(nd ns q).done=(nd ns q).us.length:=by
  have e:=hvp.2.2.2;unfold kdone klog at e;rw[j17,hq,Nat.add_sub_cancel,j25]at e;exact e
 have AK:=hid (juz (v:=view) (x:=x) (ns:=ns) (q:=q) hq rfl);have hul:=hl q hqn;have HSH:=hid hs;have UX:=hid (λW (h:Below w.heap.size w W)=>((hx.2.below h).at hqn).1);obtain⟨b,off,rfl,p0,p1,p2⟩:=hx.cells q hqn;have CE:=hid (λW (h:Below w.heap.size w W)=>show W.cell? ⟨b,off+q*3,none⟩=some (.int .i64 (nd ns q).id)/\W.cell? ⟨b,off+q*3+1,none⟩=some (.slice (nd ns q).a (nd ns q).us.length (nd ns q).cap)/\W.cell? ⟨b,off+q*3+2,none⟩=some (.int .i64 (nd ns q).done)from⟨(h.cell (p:=⟨b,off+q*3,none⟩) (jo p0)).trans p0,(h.cell (p:=⟨b,off+q*3+1,none⟩) (jo p0)).trans (by simpa using p1),(h.cell (p:=⟨b,off+q*3+2,none⟩) (jo p0)).trans (by simpa using p2)⟩);rcases hN:nd ns q with⟨id1,ya,c,us,d⟩;rw[hN]at CE UX AK DL hul;dsimp only at CE UX AK DL hul;subst DL;have EQ:(ns.length:Int)-1=(q:Int):=by omega
 have i1:(0:Int)<=(q:Int):=by omega
 have i2:(q:Int)<(ns.length:Int):=by omega
 generalize addK view (keys ns) x=o at *;clear hv hvp hx hs hl p0 p1 p2 hN hq;go_enter Twn.func68,Tryz.ntmps68
 go_wp2_with fail
 refine CV.mono ?_;rintro e w1 ⟨rfl,hb⟩;have s1:=s0.call hb;clear s0 hb CV;obtain⟨c1,_⟩:=s1.at1.cells;obtain⟨q0,q1,q2⟩:=CE.out _ s1.below;have s2:=s1.alloc (.cells #[.int .i64 id1,.slice ya us.length c,.int .i64 us.length] 60);clear s1
 go_upto_region 4 with fail
 generalize hT:w1.heap.size=T at *;generalize hW1:w1.alloc (.cells #[.int .i64 id1,.slice ya us.length c,.int .i64 us.length] 60 (0,0))=w2 at *;clear c1 q0 q1 q2 hW1 hT;obtain⟨c1,_⟩:=s2.at2.cells;go_wp2_with fail
 refine(L4.out _ s2.below).mono ?_;rintro e w3 ⟨G0,capG,ms,rfl,hkey,hml,ss⟩;have s3:=s2.join ss;obtain⟨G,cG,eG,_,_⟩:=s3.own.form (by omega);cases eG;simp only[List.cons_append]at s3;have s4:=(s3.alloc (.cells #[.int .i64 view,.slice (some ⟨G,0,none⟩) ns.length capG] 34));clear c1 ss s3 s2;generalize hO:w3.heap.size=O at *
 go_upto_region 5 with fail
 generalize hW0:w3.alloc (.cells #[.int .i64 view,.slice (some ⟨G,0,none⟩) ns.length capG] 34 (0,0))=w4 at *;obtain⟨c2,f2⟩:=s4.cells;obtain⟨c3,_⟩:=(s4.pull (r:=box w.heap.size #[.int .i64 view,.slice (some ⟨b,off,none⟩) ns.length cap] 34) (by simp)).cells;have s5:=s4.set 0 (.int .i64 (view+1))
 go_upto_region 6 with fail
 generalize hW:w4.setCell ⟨O,0,none⟩ (.int .i64 (view+1))=w5 at *;clear hW hW0 c2 f2 c3 s4;obtain⟨S,hS⟩:=Mix.named (λw'=>w'.cell? ⟨O,1,none⟩=some (.slice (some ⟨G,0,none⟩) ns.length capG)/\w'.cell? ⟨T,1,none⟩=some (.slice ya us.length c)/\w'.cell? ⟨T,2,none⟩=some (.int .i64 us.length));have HS:=hid hS;have e0:=Mix.held_cell (λw h=>((hS w).1 h).1);have e1:=Mix.held_cell (λw h=>((hS w).1 h).2.1);have e2:=Mix.held_cell (λw h=>((hS w).1 h).2.2);clear hS;have SO:=hid (λW rr (hr:box O #[.int .i64 (view+1),.slice (some ⟨G,0,none⟩) ns.length capG] 34∈rr) (hr2:box T #[.int .i64 id1,.slice ya us.length c,.int .i64 us.length] 60∈rr) (s:St w W rr)=>by
  have a0:=cell_of_heap (o:=1) (s.pull hr).boxAt;have a1:=cell_of_heap (o:=1) (s.pull hr2).boxAt;have a2:=cell_of_heap (o:=2) (s.pull hr2).boxAt;simp at a0 a1 a2;exact(HS.out W).2 ⟨a0,a1,a2⟩)
 have s6:=s5.drew;refine Mix.start S 13 (by kernel_rfl) ?_;generalize w5.drew=w6 at *;clear s5;refine Mix.take [0,1,2,4,5,7,8] 7 (by kernel_rfl) (by kernel_rfl) (by kernel_rfl) (by intro c a a' w e h;exact⟨e.symm.trans h.1,h.2⟩) (SO.out _ _ (by simp) (by simp) s6) ?_;intro hne;simp only[Mix.pickOps,List.filterMap_cons,List.filterMap_nil,List.getElem?_toArray,List.getElem?_cons_zero,List.getElem?_cons_succ];repeat (refine Mix.cons_form ?_;go_big_quiet_step (fail))
 refine wpQuiet_nil ?_;clear hne;refine Mix.step (i:=3) (by kernel_rfl) rfl rfl ?_;have s7:=s6.alloc (.cells #[] 76);have z6:=s6.size;go_simp;refine And.intro (SO.out _ _ (by simp) (by simp) s7) ?_;refine Mix.step (i:=6) (by kernel_rfl) rfl rfl ?_;have s8:=s7.madeRow 2 0 rfl (by simp[maxLen]) 0 (Nat.le_refl _);have o8:=s8.own;have UW:=UX.out _ s8.below;have UL:=j30 us;have z8:=s8.size;refine js7 j5c _ _ (by rfl) w.heap.size (.slice (some ⟨w6.heap.size,0,none⟩) 0 0) 0 [] (by rfl) ya us.length c (by rfl) (ucells us) UL (jeq us) (by omega) (by omega) UW o8 (by omega) ?_;intro v' w7 hown hgrow hat hlt;rw[Nat.zero_add,List.nil_append]at hown;obtain⟨va,vc,rfl⟩:=jho hown;have s9:=s8.appV (j1y _ none) hown hgrow hat hlt;have FS:=hid (SO.out _ _ (by simp) (by simp) s9);refine And.intro (.inr FS.out) ?_;clear s6 s7 s8 o8 UW UL hown hgrow hat hlt z6;go_simp;refine Mix.step (i:=9) (by kernel_rfl) rfl rfl ?_;go_simp;refine And.intro FS.out ?_;refine Mix.step (i:=10) (by kernel_rfl) rfl rfl ?_;have s10:=s9.alloc (.cells #[.int .i64 x,.slice va us.length vc,.int .i64 us.length] 60);have s11:=s10.at3;have o11:=s11.own;have z9:=s9.size;go_simp;refine And.intro (SO.out _ _ (by simp) (by simp) s10) ?_;refine Mix.step (i:=11) (by kernel_rfl) rfl rfl ?_;refine jep j3m _ _ (by rfl) w.heap.size (.slice (some ⟨G,0,none⟩) ns.length capG) ns.length (ncells ms) (by rfl) w7.heap.size 1 1 (by rfl) #[.int .i64 x,.slice va us.length vc,.int .i64 us.length] 60 (0,0) (by rfl) (by simp[Value.oneCell']) (by omega) (by omega) (by omega) (heap_alloc_new w7 _) o11 (by simp;omega) ?_;intro gg cap3 w8 hown hgrow hat hlt;have s12:=(s11.app (j1y _ none) hown hgrow hat hlt).at1.drop;have FS2:=hid (SO.out _ _ (by simp) (by simp) s12);refine And.intro (.inr FS2.out) ?_;clear s9 s10 s11 hown hgrow hat hlt o11 z8 z9 FS;go_simp;refine Mix.step (i:=12) (by kernel_rfl) rfl rfl ?_;go_simp;refine And.intro FS2.out ?_;refine Mix.step (i:=13) (by kernel_rfl) rfl rfl ?_;have s13:=s12.at2;obtain⟨c2,f2⟩:=s13.cells;have s14:=s13.set 1 (.slice (some ⟨gg,0,none⟩) (ns.length+1) cap3);go_simp;refine Mix.done (by kernel_rfl) ?_;generalize hW9:w8.setCell ⟨O,1,none⟩ (.slice (some ⟨gg,0,none⟩) (ns.length+1) cap3)=w9 at *;obtain⟨fs,hfs⟩:∃fs,fs=ms++[⟨x,va,vc,us,(us.length:Int)⟩]:=⟨_,rfl⟩;have FL:fs.length=ns.length+1:=by rw[hfs];simp[hml]
 have KF:keys fs=keys ns++[(x,us,(us.length:Int))]:=by rw[hfs,j2u,hkey];rfl
 have s15:St w w9 (box O #[.int .i64 (view+1),.slice (some ⟨gg,0,none⟩) (ns.length+1) cap3] 34::row (.slice (some ⟨gg,0,none⟩) (ns.length+1) cap3) 60 3 (ns.length+1) (ncells fs)::(nds fs++(box (w.heap.size+1) #[.int .i64 0,.slice none 0 0] 34::[box w.heap.size #[.int .i64 view,.slice (some ⟨b,off,none⟩) ns.length cap] 34,box T #[.int .i64 id1,.slice ya us.length c,.int .i64 us.length] 60]))):=by
  rw[hfs,jat,j20];have P:=St.perm (joi (O:=box O (#[.int .i64 (view+1),.slice (some ⟨G,0,none⟩) ns.length capG].setIfInBounds 1 (.slice (some ⟨gg,0,none⟩) (ns.length+1) cap3)) 34) (A:=nds ms) (T:=box T #[.int .i64 id1,.slice ya us.length c,.int .i64 us.length] 60) (X:=[box (w.heap.size+1) #[.int .i64 0,.slice none 0 0] 34,box w.heap.size #[.int .i64 view,.slice (some ⟨b,off,none⟩) ns.length cap] 34])) s14;simpa[ncells,logRes]using P
 have SF:Short fs 1099511627776:=by
  rw[hfs];intro n hn;rcases List.mem_append.1 hn with h|h
  ·exact jcq hkey HSH.out n h
  ·simp at h;subst h;simp;omega
 have hcf:=j66 s15.drop.own;have CW:=jw (view+1) (some ⟨gg,0,none⟩) cap3 fs w9 (by omega) (by omega) SF (j1s (X:=box (w.heap.size+1) #[.int .i64 0,.slice none 0 0] 34::[box w.heap.size #[.int .i64 view,.slice (some ⟨b,off,none⟩) ns.length cap] 34,box T #[.int .i64 id1,.slice ya us.length c,.int .i64 us.length] 60]) (O:=O) (cs:=#[.int .i64 (view+1),.slice (some ⟨gg,0,none⟩) (ns.length+1) cap3]) (t:=34) (by rw[FL];exact s15) rfl);rw[FL]at CW;have GK:o=if chainOk (view+1) fs=true then some (keys fs)else none:=by
  rw[AK.out,<- KF,jt];rfl
 have HG:=hid GK;obtain⟨b2,hb⟩:∃b,chainOk (view+1) fs=b:=⟨_,rfl⟩;rw[hb]at CW HG;have CX:=hid CW;have S15:=hid s15;have FLH:=hid FL;clear CW GK hb FL KF hfs SF s15 s14 s13 s12 c2 f2 FS2 hW9 e0 e1 e2 HS SO hcf;obtain⟨c1,_⟩:=S15.out.cells;go_wp2_with fail
 refine CX.out.mono ?_;rintro e w12 ⟨rfl,hb⟩;have s12:=S15.out.call hb;obtain⟨cO,cR,fR,qR,t1,q0,t0⟩:=j1u s12;clear c1 hb;cases b2 with
 | false=>
  have FIN:=hid (j1n (view:=view+1) (show o=none from HG.out) (gaveNone t0 rfl rfl rfl));clear t1 t0 qR s12;go_wp2_with fail
  exact bodyPost_ret (v:=.tuple #[.agg #[.int .i64 0,.slice none 0 0],.bool false]) (by simp[results,Tryz.results68,go_sem,q0]) rfl FIN.out
 | true=>
  have FIN:=hid (j2d (view:=view+1) (show o=some (keys fs)from HG.out) (gaveSome t1 FLH.out.symm rfl));clear t1 t0 q0 s12;go_wp2_with fail
  exact bodyPost_ret (v:=.tuple #[.agg #[.int .i64 (view+1),.slice (some ⟨gg,0,none⟩) (ns.length+1) cap3],.bool true]) (by simp[results,Tryz.results68,go_sem,qR]) rfl FIN.out
theorem jmm {us:List Upd}{d k:Nat}{key:Int}(hk:k<us.length)(hd:d<=k)(e:us[k].1=key):dirtyK us d key=true:=by
 unfold dirtyK;rw[List.any_eq_true];refine⟨us[k],?_,by simpa using e⟩;have h:k-d<(us.drop d).length:=by simp;omega
 have e2:(us.drop d)[k-d]=us[k]:=by simp[show d+(k-d)=k by omega]
 rw[<- e2];exact List.getElem_mem h
theorem jp9 {us:List Upd}{d:Nat}{key:Int}(h:∀j,(hj:j<us.length)->d<=j->us[j].1≠key):dirtyK us d key=false:=by
 refine jl2 λj hj=>?_;have hj2:d+j<us.length:=by simp at hj;omega
 have e2:(us.drop d)[j]=us[d+j]:=by simp
 rw[e2];exact h (d+j) hj2 (by omega)
theorem jdc (id:Int)(d:Nat)(a:Option Addr)(cap:Nat)(us:List Upd)(key:Int)(w:World)(hd:d<=us.length)(hm:us.length<=100)(hx:UpdsAt w a us) :
  Calls tnp 108 #[.agg #[.int .i64 id,.slice a us.length cap,.int .i64 d],.int .i64 key] w λe w'=>e=.returned (.bool (dirtyK us d key))/\Below w.heap.size w w':=by
 have s0:=(St.start w).alloc (.cells #[.int .i64 id,.slice a us.length cap,.int .i64 d] 60);have UX:=hid (λW (h:Below w.heap.size w W)=>hx.below h);have DY:=hid (λk (h:k<us.length) (hk:d<=k) (e:us[k].1=key)=>jmm h hk e);have DN:=hid (jp9 (us:=us) (d:=d) (key:=key));clear hx;go_enter Twn.func108,Tryz.ntmps108
 go_wp2_with fail
 go_loopw [5] (λi wr=>∃k:Nat,d<=k/\k<=us.length/\i=.int .i64 k/\(∀j,(hj:j<us.length)->d<=j->j<k->us[j].1≠key)/\St w wr [box w.heap.size #[.int .i64 id,.slice a us.length cap,.int .i64 d] 60]) (λi _=>us.length-(intOf i).toNat)
 case atStart=>exact⟨d,Nat.le_refl _,hd,rfl,λj hj h h2=>absurd h2 (by omega),s0⟩
 case round=>
  clear s0;obtain⟨k,hdk,hk,rfl,hn,s1⟩:=hrel;have HN:=hid hn;clear hn;have b0:=s1.boxIn (V:=w.heap.size) (cs:=#[.int .i64 id,.slice a us.length cap,.int .i64 d]) (t:=60) (by simp) 1 rfl;have FIN:=hid s1;by_cases hlt:k<us.length
  ·obtain⟨b,off,rfl,c0,c1⟩:=(UX.out _ s1.below).cells k hlt;have i1:(0:Int)<=(k:Int):=by omega
   have i2:(k:Int)<(us.length:Int):=by omega
   have DK:=hid (DY.out k hlt hdk);have NK:Hid (us[k].1≠key->∀j,(hj:j<us.length)->d<=j->j<k+1->us[j].1≠key):=hid (λh j hj hdj hjk=>by
    by_cases e:j=k
    ·subst e;exact h
    ·exact HN.out j hj hdj (by omega))
   generalize us[k]=u at *;obtain⟨uk,uv⟩:=u;clear s1;by_cases he:uk=key
   ·have R:=hid (DK.out he);subst he;clear DK NK;go_wp2_with fail
    go_ret
    exact⟨by rw[R.out];rfl,FIN.out.below⟩
   ·have N2:=hid (NK.out he);have he':(uk==key)=false:=by simpa using he
    clear DK NK he;go_wp2_with fail
    go_roundw
    case rel=>exact⟨k+1,by omega,hlt,by go_num,N2.out,FIN.out⟩
    case measure=>simp[intOf];omega
  ·obtain rfl:k=us.length:=by omega
   have R:=hid (DN.out λj hj hdj=>HN.out j hj hdj hj);clear s1;go_wp2_with fail
   go_ret
   exact⟨by rw[R.out];rfl,FIN.out.below⟩
theorem j8h (id:Int)(d:Nat)(a:Option Addr)(cap:Nat)(us:List Upd)(key:Nat)(w:World)(hok:nodeOk id us d=true)(hk:key<=4)(hx:UpdsAt w a us) :
  Calls tnp 89 #[.agg #[.int .i64 id,.slice a us.length cap,.int .i64 d],.int .i64 key] w λe w'=>e=.returned (.tuple #[.int .i64 (nodeReadK (id,us,(d:Int)) key).1,.int .i64 (nodeReadK (id,us,(d:Int)) key).2])/\Below w.heap.size w w':=by
 have s0:=(St.start w).alloc (.cells #[.int .i64 id,.slice a us.length cap,.int .i64 d] 60);obtain⟨hi0,hl,hd0,hd1⟩:=j1o.1 hok;have hm:us.length<=12:=(j2i.1 hl).1;have hd2:d<=us.length:=by omega
 have WC:=hid (λW (h:Below w.heap.size w W)=>jdc id d a cap us key W hd2 (by omega) (hx.below h));have VC:=hid (λW (h:Below w.heap.size w W)=>je3 a cap us d W (by omega) (hx.below h) hl hd2);have NA:=hid (j85 (id:=id) (us:=us) (d:=d) (key:=key));have NV:=hid (j86 (id:=id) (us:=us) (d:=d) (key:=key));have VK:valK us d key=(runTo empty5 us d).getD key (-1):=by unfold valK;rw[Int.toNat_natCast]
 rw[VK]at NV;have e5:(runTo empty5 us d).length=5:=by rw[j3p];rfl
 generalize runTo empty5 us d=st at *;have ev:st.getD key (-1)=st[key]:=by simp[show key<st.length by omega]
 rw[ev]at NV;have e0:st.getD key 0=st[key]:=by simp[show key<st.length by omega]
 generalize st[key]=z at *;have E0:=hid e0;have HN:=hid hok;have NO:=j27 a cap id d us _ (by omega) (hx.below s0.below);have K4:0<=(key:Int)/\(key:Int)<=4:=by omega
 clear hok hl hd0 hd1 hi0 hx VK ev e0;go_enter Twn.func89,Tryz.ntmps89
 go_wp2_with fail
 refine NO.mono ?_;rw[HN.out];rintro e w1 ⟨rfl,hb⟩;have s1:=s0.call hb;obtain⟨c1,_⟩:=s1.cells;clear NO hb s0;go_wp2_with fail
 refine(j2f (key:Int) 0 4 _ K4).mono ?_;rintro e w2 ⟨rfl,rfl⟩;clear K4;go_wp2_with fail
 refine(WC.out _ s1.below).mono ?_;rintro e w3 ⟨rfl,hb⟩;have s3:=s1.call hb;obtain⟨c3,_⟩:=s3.cells;clear hb s1 c1;cases hdy:dirtyK us d key with
 | true=>
  have R:=hid (NA.out hdy);have FIN:=hid s3.below;clear hdy s3;go_wp2_with fail
  exact bodyPost_ret (v:=.tuple #[.int .i64 0,.int .i64 1]) (by simp[results,Tryz.results89,go_sem]) rfl ⟨by rw[R.out],FIN.out⟩
 | false=>
  have R:=hid (NV.out hdy);clear hdy;go_wp2_with fail
  refine(VC.out _ s3.below).mono ?_;rintro e w4 ⟨a4,cap4,rfl,hown,hb⟩;have s4:=s3.fresh hb hown (Nat.le_refl _);clear hown hb s3 c3;obtain⟨a2,cap2,e2,hI⟩:=s4.ints;cases e2;obtain⟨b,off,rfl,hcell⟩:=hI.resolve_left (by intro h;rw[h]at e5;simp at e5);have c0:=hcell key (by omega);rw[E0.out]at c0;have i1:(0:Int)<=(key:Int):=by omega
  have i2:(key:Int)<(st.length:Int):=by omega
  have FIN:=hid s4.below;clear s4 hI hcell;by_cases hz:z<0
  ·have HZ:=hid hz;go_wp2_with fail
   exact bodyPost_ret (v:=.tuple #[.int .i64 0,.int .i64 2]) (by simp[results,Tryz.results89,go_sem]) rfl ⟨by rw[R.out,if_pos (show z<0 by have:=HZ.out;omega)],FIN.out⟩
  ·have HZ:=hid hz;have hz2:decide (z<0)=false:=by simp;omega
   clear hz;go_wp2_with fail
   exact bodyPost_ret (v:=.tuple #[.int .i64 z,.int .i64 0]) (by simp[results,Tryz.results89,go_sem]) rfl ⟨by rw[R.out,if_neg (show¬z<0 by have:=HZ.out;omega)],FIN.out⟩
theorem j78 (view:Int)(a:Option Addr)(cap:Nat)(ns:List Nd)(key:Nat)(w:World)(hv:chainOk view ns=true)(hc:ns.length<=cap)(hk:key<=4)(hx:NodesAt w a ns) :
  Calls tnp 90 #[.agg #[.int .i64 view,.slice a ns.length cap],.int .i64 key] w λe w'=>e=.returned (.tuple #[.int .i64 (if(askK (keys ns) key).2=1 then(askK (keys ns) key).1 else 0),.bool (decide ((askK (keys ns) key).2=1))])/\Below w.heap.size w w':=by
 have s0:=(St.start w).alloc (.cells #[.int .i64 view,.slice a ns.length cap] 34);obtain⟨hm,hs,h1,h5,hl⟩:=okS hv;have CV:=jw view a cap ns _ hm hc hs (hx.below s0.below);rw[hv]at CV;obtain⟨q,hq⟩:∃q,ns.length-1=q:=⟨_,rfl⟩;have hqn:q<ns.length:=by omega
 have hul:=hl q hqn;have hok:logOk (nd ns q).us=true:=(j1o.1 ((j1c.1 hv).2.2.1 q hqn).1).2.1;have SO:=hid (λW (h:Below w.heap.size w W)=>je3 (nd ns q).a (nd ns q).cap (nd ns q).us (nd ns q).us.length W (by omega) ((hx.2.below h).at hqn).1 hok (Nat.le_refl _));have AK:askK (keys ns) key=if valK (nd ns q).us (nd ns q).us.length key<0 then(0,2)else(valK (nd ns q).us (nd ns q).us.length key,1):=by
  unfold askK klen klog;rw[j17,hq,j25];rfl
 obtain⟨b0,off0,rfl,p0,p1,p2⟩:=hx.cells q hqn;have CE:=hid (λW (h:Below w.heap.size w W)=>show W.cell? ⟨b0,off0+q*3,none⟩=some (.int .i64 (nd ns q).id)/\W.cell? ⟨b0,off0+q*3+1,none⟩=some (.slice (nd ns q).a (nd ns q).us.length (nd ns q).cap)/\W.cell? ⟨b0,off0+q*3+2,none⟩=some (.int .i64 (nd ns q).done)from⟨(h.cell (p:=⟨b0,off0+q*3,none⟩) (jo p0)).trans p0,(h.cell (p:=⟨b0,off0+q*3+1,none⟩) (jo p0)).trans (by simpa using p1),(h.cell (p:=⟨b0,off0+q*3+2,none⟩) (jo p0)).trans (by simpa using p2)⟩);have K4:(0:Int)<=(key:Int)/\(key:Int)<=4:=by omega
 have EQ:(ns.length:Int)-1=(q:Int):=by omega
 have j1:(0:Int)<=(q:Int):=by omega
 have j2:(q:Int)<(ns.length:Int):=by omega
 clear hv hl hs hx p0 p1 p2 hq;rcases hN:nd ns q with⟨id1,y,c,us,d⟩;rw[hN]at SO AK CE hul;simp only at SO AK CE hul;clear hN hok;have VK:valK us us.length key=(runTo empty5 us us.length).getD key (-1):=by unfold valK;rw[Int.toNat_natCast]
 have e5:(runTo empty5 us us.length).length=5:=by rw[j3p];rfl
 rw[VK]at AK;generalize runTo empty5 us us.length=st at *;have ev:st.getD key (-1)=st[key]:=by simp[show key<st.length by omega]
 rw[ev]at AK;have e0:st.getD key 0=st[key]:=by simp[show key<st.length by omega]
 generalize st[key]=z at *;have E0:=hid e0;have AKH:=hid AK;generalize hR1:(if(askK (keys ns) key).2=1 then(askK (keys ns) key).1 else 0)=r1 at *;generalize hR2:decide ((askK (keys ns) key).2=1)=r2 at *;have R1:=hid hR1;have R2:=hid hR2;clear AK VK ev e0 hR1 hR2;go_enter Twn.func90,Tryz.ntmps90
 go_wp2_with fail
 refine CV.mono ?_;rintro e w1 ⟨rfl,hb⟩;have s1:=s0.call hb;obtain⟨c1,_⟩:=s1.cells;clear CV hb s0;go_wp2_with fail
 refine(j2f (key:Int) 0 4 _ K4).mono ?_;rintro e w2 ⟨rfl,rfl⟩;clear K4;obtain⟨p0,p1,p2⟩:=CE.out _ s1.below;have s2:=s1.alloc (.cells #[.int .i64 id1,.slice y us.length c,.int .i64 d] 60);clear s1;go_wp2_with fail
 refine(SO.out _ s2.below).mono ?_;rintro e w3 ⟨a',cap',rfl,hown,hb⟩;have s3:=s2.fresh hb hown (Nat.le_refl _);clear SO hown hb s2 c1 p0 p1 p2;obtain⟨a2,cap2,e2,hI⟩:=s3.ints;cases e2;obtain⟨b,off,rfl,hcell⟩:=hI.resolve_left (by intro h;rw[h]at e5;simp at e5);have c0:=hcell key (by omega);rw[E0.out]at c0;have i1:(0:Int)<=(key:Int):=by omega
 have i2:(key:Int)<(st.length:Int):=by omega
 have FIN:=hid s3.below;clear s3 hI hcell;by_cases hz:z<0
 ·have HZ:=hid hz;go_wp2_with fail
  exact bodyPost_ret (v:=.tuple #[.int .i64 0,.bool false]) (by simp[results,Tryz.results90,go_sem]) rfl ⟨by rw[<- R1.out,<- R2.out,AKH.out,if_pos (show z<0 by have:=HZ.out;omega)];rfl,FIN.out⟩
 ·have HZ:=hid hz;have hz3:decide (z<0)=false:=by simp;omega
  clear hz;go_wp2_with fail
  exact bodyPost_ret (v:=.tuple #[.int .i64 z,.bool true]) (by simp[results,Tryz.results90,go_sem]) rfl ⟨by rw[<- R1.out,<- R2.out,AKH.out,if_neg (show¬z<0 by have:=HZ.out;omega)];rfl,FIN.out⟩
theorem j67 (view:Int)(a:Option Addr)(cap:Nat)(ns:List Nd)(id key:Int)(w:World)(hv:chainOk view ns=true)(hc:ns.length<=cap)(hx:NodesAt w a ns) :
  Calls tnp 64 #[.agg #[.int .i64 view,.slice a ns.length cap],.int .i64 id,.int .i64 key] w λe w'=>e=.returned (.tuple #[.int .i64 (readAtK (keys ns) id key).1,.int .i64 (readAtK (keys ns) id key).2])/\Below w.heap.size w w':=by
 have s0:=(St.start w).alloc (.cells #[.int .i64 view,.slice a ns.length cap] 34);obtain⟨hm,hs,h1,h5,hl⟩:=okS hv;have CV:=hid (λW (h:Below w.heap.size w W)=>hv▸jw view a cap ns W hm hc hs (hx.below h));have CP:=jc0 view a cap ns id _ hm (hx.below s0.below);have CR:=hid (λ(k:Nat) (hk:k<=4) W (h:Below w.heap.size w W)=>j78 view a cap ns k W hv hc hk (hx.below h));have RB:=hid (jed (ns:=ns) (id:=id) (key:=key));have RN:=hid (jcg (ns:=ns) (id:=id) (key:=key));have RA:=hid (λp=>jhy (ns:=ns) (id:=id) (key:=key) (p:=p));have CL:=hid (jbm (ns:=ns) (x:=id));have HX:=hid (λW (h:Below w.heap.size w W)=>hx.below h);have OKN:=hid (λp (h:p<ns.length)=>((j1c.1 hv).2.2.1 p h).1);have A2:=hid (jkn (keys ns) key);generalize readAtK (keys ns) id key=r at *;generalize cplace ns id=cp at *;clear hv hs hx hl;go_enter Twn.func64,Tryz.ntmps64
 go_wp2_with fail
 refine CP.mono ?_;rintro e w1 ⟨rfl,hb⟩;have s1:=s0.call hb;obtain⟨c1,_⟩:=s1.cells;clear CP hb s0;go_wp2_with fail
 refine(CV.out _ s1.below).mono ?_;rintro e w2 ⟨rfl,hb⟩;have s2:=s1.call hb;obtain⟨c2,_⟩:=s2.cells;clear hb s1 c1;by_cases hp:cp<0
 ·have R:=hid (RN.out (by omega));have FIN:=hid s2.below;clear s2;go_wp2_with fail
  exact bodyPost_ret (v:=.tuple #[.int .i64 0,.int .i64 3]) (by simp[results,Tryz.results64,go_sem]) rfl ⟨by rw[R.out],FIN.out⟩
 ·obtain⟨p,hpl,rfl⟩:=CL.out (by omega);clear hp;have hp:¬((p:Int)<0):=by omega
  by_cases hk:0<=key/\key<=4
  ·have RA2:=hid (RA.out p hk rfl);obtain⟨k,rfl⟩:∃k:Nat,key=k:=⟨key.toNat,by omega⟩;have hk4:k<=4:=by omega
   have IK:=hid (λW=>j2f (k:Int) 0 4 W hk);clear hk;go_wp2_with fail
   refine(IK.out _).mono ?_;rintro e w3 ⟨rfl,rfl⟩;obtain⟨b,off,rfl,p0,p1,p2⟩:=(HX.out _ s2.below).cells p hpl;have UX:=((HX.out _ s2.below).2.at hpl);have OK:=OKN.out p hpl;have i1:(0:Int)<=(p:Int):=by omega
   have i2:(p:Int)<(ns.length:Int):=by omega
   rcases hN:nd ns p with⟨q,y,c,us,d⟩;rw[hN]at p0 p1 p2 UX OK RA2;dsimp only at p0 p1 p2 UX OK;obtain⟨dn,rfl⟩:∃dn:Nat,d=dn:=⟨d.toNat,by have:=(j1o.1 OK).2.2.1;omega⟩;have NR:=j8h q dn y c us k _ OK hk4 UX.1;have RA3:Hid (r=if(nodeReadK (q,us,(dn:Int)) k).2=1 then askK (keys ns) k else nodeReadK (q,us,(dn:Int)) k):=hid RA2.out;generalize nodeReadK (q,us,(dn:Int)) k=nr at *;obtain⟨n1,n2⟩:=nr;clear hN hp hpl UX OK RA2;go_wp2_with fail
   refine NR.mono ?_;rintro e w3 ⟨rfl,hb⟩;have s3:=s2.call hb;obtain⟨c3,_⟩:=s3.cells;clear hb s2 NR c2 p0 p1 p2;by_cases hn:n2=1
   ·have R1:=hid (RA3.out.trans (if_pos hn));subst hn;go_wp2_with fail
    refine(CR.out k hk4 _ s3.below).mono ?_;rintro e w4 ⟨rfl,hb⟩;have FIN:=hid (s3.call hb).below;clear hb s3 c3;generalize askK (keys ns) k=ak at *;obtain⟨a1,a2⟩:=ak;dsimp only at *;by_cases h1:a2=1
    ·subst h1;go_wp2_with fail
     exact bodyPost_ret (v:=.tuple #[.int .i64 a1,.int .i64 1]) (by simp[results,Tryz.results64,go_sem]) rfl ⟨by rw[R1.out],FIN.out⟩
    ·have e2:=A2.out.resolve_left h1;cases e2;go_wp2_with fail
     exact bodyPost_ret (v:=.tuple #[.int .i64 0,.int .i64 2]) (by simp[results,Tryz.results64,go_sem]) rfl ⟨by rw[R1.out],FIN.out⟩
   ·have R1:=hid (RA3.out.trans (if_neg hn));have hn':(n2 != 1)=true:=by simpa using hn
    have FIN:=hid s3.below;clear hn s3;go_wp2_with fail
    exact bodyPost_ret (v:=.tuple #[.int .i64 n1,.int .i64 n2]) (by simp[results,Tryz.results64,go_sem]) rfl ⟨by rw[R1.out],FIN.out⟩
  ·have R:=hid (RB.out hk);have IK:=hid (λW=>j63 key 0 4 W hk);have FIN:=hid s2.below;clear hk s2;go_wp2_with fail
   refine(IK.out _).mono ?_;rintro e w3 ⟨rfl,rfl⟩;go_wp2_with fail
   exact bodyPost_ret (v:=.tuple #[.int .i64 0,.int .i64 3]) (by simp[results,Tryz.results64,go_sem]) rfl ⟨by rw[R.out],FIN.out⟩
end Go.Proofs.T
