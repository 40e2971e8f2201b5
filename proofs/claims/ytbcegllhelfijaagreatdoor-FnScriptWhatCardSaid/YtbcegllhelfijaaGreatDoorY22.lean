/-
  A part of the proof.
-/
import Derived.Test.YtbcegllhelfijaaGreatDoorY19
import Derived.Test.YtbcegllhelfijaaGreatDoorY21
set_option linter.all false
set_option maxRecDepth 100000
set_option maxHeartbeats 8000000
namespace Go.Proofs.T
open Lib (hid)
open Go.RowKit
theorem jn0 (x z:Value)(a:Option Addr)(n c:Nat)(w:World):(Instr.field 60 (.agg #[x,.slice a n c,z]) 1).run tnp w=.ok (.slice a n c) w:=by kernel_rfl
theorem jpa {us:List Upd}{d k:Nat}{key:Int}(h:k<(us.drop d).length)(e:(us.drop d)[k].1=key):dirtyK us d key=true:=by
 unfold dirtyK;rw[List.any_eq_true];exact⟨_,List.getElem_mem h,by simpa using e⟩
theorem jl2 {us:List Upd}{d:Nat}{key:Int}(h:∀j,(hj:j<(us.drop d).length)->(us.drop d)[j].1≠key):dirtyK us d key=false:=by
 unfold dirtyK;rw[List.any_eq_false];intro u hu;obtain⟨j,hj,rfl⟩:=List.getElem_of_mem hu;simpa using h j hj
theorem jkj (id:Int)(d:Nat)(a:Option Addr)(cap:Nat)(us:List Upd)(key:Int)(w:World)(hd:d<=us.length)(hc:us.length<=cap)(hm:us.length<=100)(hx:UpdsAt w a us) :
  Calls tnp 138 #[.agg #[.int .i64 id,.slice a us.length cap,.int .i64 d],.int .i64 key] w λe w'=>e=.returned (.bool (dirtyK us d key))/\Below w.heap.size w w':=by
 have s0:=(St.start w).alloc (.cells #[.int .i64 id,.slice a us.length cap,.int .i64 d] 157);have SF:=λ(w:World)=>jfu (P:=tnp) 58 76 2 a us.length cap d Twn.underlying58 jbw hd w;have UX:=hid (λW (h:Below w.heap.size w W)=>js2 (hx.below h) cap d hc);have DY:=hid (λk (h:k<(us.drop d).length) (e:(us.drop d)[k].1=key)=>jpa h e);have DN:=hid (jl2 (us:=us) (d:=d) (key:=key));have HL:Hid ((us.drop d).length=us.length-d):=hid (by simp);generalize cutAt a cap d 2=a1 at *;generalize us.drop d=vs at *;rw[<- HL.out]at SF;have hvl:vs.length<=100:=by have:=HL.out;omega
 clear hx HL;go_enter Twn.func138,Tryz.ntmps138
 go_wp2_with fail
 clear SF
 go_loopw [15] (λi wr=>∃k:Nat,k<=vs.length/\i=.int .i64 k/\(∀j,(hj:j<vs.length)->j<k->vs[j].1≠key)/\St w wr [box w.heap.size #[.int .i64 id,.slice a us.length cap,.int .i64 d] 157]) (λi _=>vs.length-(intOf i).toNat)
 case atStart=>exact⟨0,Nat.zero_le _,rfl,λj hj h=>absurd h (by omega),s0⟩
 case round=>
  clear s0;obtain⟨k,hk,rfl,hn,s1⟩:=hrel;have HN:=hid hn;clear hn;by_cases hlt:k<vs.length
  ·obtain⟨b,off,rfl,c0,c1⟩:=(UX.out _ s1.below).cells k hlt;have i1:(0:Int)<=(k:Int):=by omega
   have i2:(k:Int)<(vs.length:Int):=by omega
   have DK:=hid (DY.out k hlt);have NK:Hid (vs[k].1≠key->∀j,(hj:j<vs.length)->j<k+1->vs[j].1≠key):=hid (λh j hj hjk=>by
    by_cases e:j=k
    ·subst e;exact h
    ·exact HN.out j hj (by omega))
   generalize vs[k]=u at *;obtain⟨uk,uv⟩:=u;have FIN:=hid (s1.alloc (.cells #[.int .i64 uk,.int .i64 uv] 76));by_cases he:uk=key
   ·have R:=hid (DK.out he);subst he;clear s1 DK NK;go_wp2_with fail
    go_ret
    exact⟨by rw[R.out];rfl,FIN.out.below⟩
   ·have N2:=hid (NK.out he);have he':(uk==key)=false:=by simpa using he
    clear s1 DK NK he;go_wp2_with fail
    go_roundw
    case rel=>exact⟨k+1,hlt,by go_num,N2.out,FIN.out.drop⟩
    case measure=>simp[intOf];omega
  ·obtain rfl:k=vs.length:=by omega
   have R:=hid (DN.out λj hj=>HN.out j hj hj);have FIN:=hid s1.below;go_wp2_with fail
   go_ret
   exact⟨by rw[R.out];rfl,FIN.out⟩
theorem jg0 (id done:Int)(a:Option Addr)(cap:Nat)(us:List Upd)(key many:Nat)(w:World)(hc:us.length<=cap)(hl:logOk us=true)(hk:key<=4)(hmy:many<=us.length)(hx:UpdsAt w a us) :
  Calls tnp 139 #[.agg #[.int .i64 id,.slice a us.length cap,.int .i64 done],.int .i64 key,.int .i64 many] w λe w'=>e=.returned (.tuple #[.int .i64 (if valK us many key<0 then 0 else valK us many key),.bool (decide (0<=valK us many key))])/\Below w.heap.size w w':=by
 have s0:=(St.start w).alloc (.cells #[.int .i64 id,.slice a us.length cap,.int .i64 done] 157);have hm:us.length<=12:=(j2i.1 hl).1;have SA:=j8j a cap us many _ (by omega) hc (hx.below s0.below);rw[j7a hl hmy]at SA;have e5:(runTo empty5 us many).length=5:=by rw[j3p];rfl
 have VK:valK us many key=(runTo empty5 us many).getD key (-1):=by unfold valK;rw[Int.toNat_natCast]
 rw[VK];generalize runTo empty5 us many=st at *;have ev:st.getD key (-1)=st[key]:=by simp[show key<st.length by omega]
 rw[ev];have e0:st.getD key 0=st[key]:=by simp[show key<st.length by omega]
 generalize st[key]=z at *;have E0:=hid e0;generalize hR1:(if z<0 then 0 else z)=r1 at *;generalize hR2:decide (0<=z)=r2 at *;have R1:=hid hR1;have R2:=hid hR2;clear ev VK hx e0 hR1 hR2;go_enter Twn.func139,Tryz.ntmps139
 go_wp2_with fail
 refine SA.mono ?_;rintro e w1 ⟨a',cap',rfl,hown,hb⟩;have s1:=s0.fresh hb hown (Nat.le_refl _);clear SA hown hb s0;obtain⟨a2,cap2,e2,hI⟩:=s1.ints;cases e2;obtain⟨b,off,rfl,hcell⟩:=hI.resolve_left (by intro h;rw[h]at e5;simp at e5);have c0:=hcell key (by omega);rw[E0.out]at c0;have i1:(0:Int)<=(key:Int):=by omega
 have i2:(key:Int)<(st.length:Int):=by omega
 have FIN:=hid s1.below;clear s1 hI hcell;by_cases hz:z<0
 ·have HZ:=hid hz;go_wp2_with fail
  exact bodyPost_ret (v:=.tuple #[.int .i64 0,.bool false]) (by simp[results,Tryz.results139,go_sem]) rfl ⟨by rw[<- R1.out,<- R2.out,if_pos (show z<0 by have:=HZ.out;omega),decide_eq_false (by have:=HZ.out;omega)],FIN.out⟩
 ·have HZ:=hid hz;have hz3:decide (z<0)=false:=by simp;omega
  clear hz;go_wp2_with fail
  exact bodyPost_ret (v:=.tuple #[.int .i64 z,.bool true]) (by simp[results,Tryz.results139,go_sem]) rfl ⟨by rw[<- R1.out,<- R2.out,if_neg (show¬z<0 by have:=HZ.out;omega),decide_eq_true (by have:=HZ.out;omega)],FIN.out⟩
theorem j85 {id:Int}{us:List Upd}{d:Nat}{key:Int}(h:dirtyK us d key=true):nodeReadK (id,us,(d:Int)) key=(0,1):=by
 unfold nodeReadK;rw[if_pos (by simpa using h)]
theorem j86 {id:Int}{us:List Upd}{d:Nat}{key:Int}(h:dirtyK us d key=false):nodeReadK (id,us,(d:Int)) key=if valK us d key<0 then(0,2)else(valK us d key,0):=by
 unfold nodeReadK;rw[if_neg (by simpa using h),Int.toNat_natCast]
theorem jdf (id:Int)(d:Nat)(a:Option Addr)(cap:Nat)(us:List Upd)(key:Nat)(w:World)(hok:nodeOk id us d=true)(hc:us.length<=cap)(hk:key<=4)(hx:UpdsAt w a us) :
  Calls tnp 125 #[.agg #[.int .i64 id,.slice a us.length cap,.int .i64 d],.int .i64 key] w λe w'=>e=.returned (.tuple #[.int .i64 (nodeReadK (id,us,(d:Int)) key).1,.int .i64 (nodeReadK (id,us,(d:Int)) key).2])/\Below w.heap.size w w':=by
 have s0:=(St.start w).alloc (.cells #[.int .i64 id,.slice a us.length cap,.int .i64 d] 60);obtain⟨hi0,hl,hd0,hd1⟩:=j1o.1 hok;have hm:us.length<=12:=(j2i.1 hl).1;have hd2:d<=us.length:=by omega
 have WC:=hid (λW (h:Below w.heap.size w W)=>jkj id d a cap us key W hd2 hc (by omega) (hx.below h));have VC:=hid (λW (h:Below w.heap.size w W)=>jg0 id d a cap us key d W hc hl hk hd2 (hx.below h));have NA:=hid (j85 (id:=id) (us:=us) (d:=d) (key:=key));have NV:=hid (j86 (id:=id) (us:=us) (d:=d) (key:=key));have HN:=hid hok;have NO:=j38 a cap id d us _ (by omega) (hx.below s0.below);have K4:(0:Int)<=(key:Int)/\(key:Int)<=4:=by omega
 clear hok hl hd0 hd1 hi0 hx;go_enter Twn.func125,Tryz.ntmps125
 go_wp2_with fail
 refine NO.mono ?_;rw[HN.out];rintro e w1 ⟨rfl,hb⟩;have s1:=s0.call hb;obtain⟨c1,_⟩:=s1.cells;clear NO hb s0;go_wp2_with fail
 refine(j2x (key:Int) _ K4).mono ?_;rintro e w2 ⟨rfl,rfl⟩;have s2:=s1.alloc (.cells #[.int .i64 id,.slice a us.length cap,.int .i64 d] 157);clear K4;go_wp2_with fail
 refine(WC.out _ s2.below).mono ?_;rintro e w3 ⟨rfl,hb⟩;have s3:=s2.call hb;obtain⟨c3,_⟩:=s3.cells;clear hb s1 s2 c1;cases hdy:dirtyK us d key with
 | true=>
  have R:=hid (NA.out hdy);have FIN:=hid s3.below;clear hdy s3;go_wp2_with fail
  exact bodyPost_ret (v:=.tuple #[.int .i64 0,.int .i64 1]) (by simp[results,Tryz.results125,go_sem]) rfl ⟨by rw[R.out],FIN.out⟩
 | false=>
  have R:=hid (NV.out hdy);clear hdy;go_wp2_with fail
  refine(VC.out _ s3.below).mono ?_;rintro e w4 ⟨rfl,hb⟩;have s4:=s3.call hb;have FIN:=hid s4.below;clear s3 s4 hb c3;generalize valK us d key=z at *;by_cases hz:z<0
  ·have HZ:=hid hz;have hz2:decide (0<=z)=false:=by simp;omega
   rw[hz2,if_pos hz];clear hz hz2;go_wp2_with fail
   exact bodyPost_ret (v:=.tuple #[.int .i64 0,.int .i64 2]) (by simp[results,Tryz.results125,go_sem]) rfl ⟨by rw[R.out,if_pos (show z<0 by have:=HZ.out;omega)],FIN.out⟩
  ·have HZ:=hid hz;have hz2:decide (0<=z)=true:=by simp;omega
   rw[hz2,if_neg hz];clear hz hz2;go_wp2_with fail
   exact bodyPost_ret (v:=.tuple #[.int .i64 z,.int .i64 0]) (by simp[results,Tryz.results125,go_sem]) rfl ⟨by rw[R.out,if_neg (show¬z<0 by have:=HZ.out;omega)],FIN.out⟩
theorem jb3 (view:Int)(a:Option Addr)(cap:Nat)(ns:List Nd)(key:Nat)(w:World)(hv:chainOk view ns=true)(hk:key<=4)(hx:NodesAt w a ns) :
  Calls tnp 126 #[.agg #[.int .i64 view,.slice a ns.length cap],.int .i64 key] w λe w'=>e=.returned (.tuple #[.int .i64 (if(askK (keys ns) key).2=1 then(askK (keys ns) key).1 else 0),.bool (decide ((askK (keys ns) key).2=1))])/\Below w.heap.size w w':=by
 have s0:=(St.start w).alloc (.cells #[.int .i64 view,.slice a ns.length cap] 34);obtain⟨hm,hs,h1,h5,hl⟩:=okS hv;have HV:=hid hv;have CV:=jz view a cap ns _ hm hs (hx.below s0.below);rw[hv]at CV;have TC:=hid (λW (h:Below w.heap.size w W)=>ja4 view a cap ns W hm (by omega) (hx.below h));have hul:=hl (ns.length-1) (by omega);have hok:logOk (nd ns (ns.length-1)).us=true:=(j1o.1 ((j1c.1 hv).2.2.1 (ns.length-1) (by omega)).1).2.1;have SO:=hid (λW (h:Below w.heap.size w W)=>jfv (nd ns (ns.length-1)).a (nd ns (ns.length-1)).cap (nd ns (ns.length-1)).us W (by omega) ((hx.2.below h).at (j:=ns.length-1) (by omega)).2 ((hx.2.below h).at (j:=ns.length-1) (by omega)).1);rw[j7a hok (Nat.le_refl _)]at SO;have AK:askK (keys ns) key=if valK (nd ns (ns.length-1)).us (nd ns (ns.length-1)).us.length key<0 then(0,2)else(valK (nd ns (ns.length-1)).us (nd ns (ns.length-1)).us.length key,1):=by
  unfold askK klen klog;rw[j17,j25];rfl
 have K4:(0:Int)<=(key:Int)/\(key:Int)<=4:=by omega
 clear hv hl hs hx;rcases hN:nd ns (ns.length-1)with⟨q,y,c,us,d⟩;rw[hN]at TC SO AK;simp only at SO AK;clear hN hok hul;have VK:valK us us.length key=(runTo empty5 us us.length).getD key (-1):=by unfold valK;rw[Int.toNat_natCast]
 have e5:(runTo empty5 us us.length).length=5:=by rw[j3p];rfl
 rw[VK]at AK;generalize runTo empty5 us us.length=st at *;have ev:st.getD key (-1)=st[key]:=by simp[show key<st.length by omega]
 rw[ev]at AK;have e0:st.getD key 0=st[key]:=by simp[show key<st.length by omega]
 generalize st[key]=z at *;have E0:=hid e0;have AKH:=hid AK;generalize hR1:(if(askK (keys ns) key).2=1 then(askK (keys ns) key).1 else 0)=r1 at *;generalize hR2:decide ((askK (keys ns) key).2=1)=r2 at *;have R1:=hid hR1;have R2:=hid hR2;clear AK VK ev e0 hR1 hR2;go_enter Twn.func126,Tryz.ntmps126
 go_wp2_with fail
 refine CV.mono ?_;rintro e w1 ⟨rfl,hb⟩;have s1:=s0.call hb;obtain⟨c1,_⟩:=s1.cells;clear CV hb s0;go_wp2_with fail
 refine(j2x (key:Int) _ K4).mono ?_;rintro e w2 ⟨rfl,rfl⟩;clear K4;go_wp2_with fail
 refine(TC.out _ s1.below).mono ?_;rintro e w2 ⟨rfl,hb⟩;have s2:=s1.call hb;clear hb s1 c1;unfold nodeV;have t3:=jn0;go_wp2_with fail
 refine(SO.out _ s2.below).mono ?_;rintro e w3 ⟨a',cap',rfl,hown,hb⟩;have s3:=s2.fresh hb hown (Nat.le_refl _);clear SO TC hown hb s2 t3;obtain⟨a2,cap2,e2,hI⟩:=s3.ints;cases e2;obtain⟨b,off,rfl,hcell⟩:=hI.resolve_left (by intro h;rw[h]at e5;simp at e5);have c0:=hcell key (by omega);rw[E0.out]at c0;have i1:(0:Int)<=(key:Int):=by omega
 have i2:(key:Int)<(st.length:Int):=by omega
 have FIN:=hid s3.below;clear s3 hI hcell;by_cases hz:z<0
 ·have HZ:=hid hz;go_wp2_with fail
  exact bodyPost_ret (v:=.tuple #[.int .i64 0,.bool false]) (by simp[results,Tryz.results126,go_sem]) rfl ⟨by rw[<- R1.out,<- R2.out,AKH.out,if_pos (show z<0 by have:=HZ.out;omega)];rfl,FIN.out⟩
 ·have HZ:=hid hz;have hz3:decide (z<0)=false:=by simp;omega
  clear hz;go_wp2_with fail
  exact bodyPost_ret (v:=.tuple #[.int .i64 z,.bool true]) (by simp[results,Tryz.results126,go_sem]) rfl ⟨by rw[<- R1.out,<- R2.out,AKH.out,if_neg (show¬z<0 by have:=HZ.out;omega)];rfl,FIN.out⟩
def lagL (ns:List Nd)(k:Nat):List Int:=(List.range k).map λj=>(((nd ns 0).us.length:Nat):Int)-((nd ns j).us.length:Nat)
theorem jq9 (ns:List Nd)(k:Nat):lagL ns (k+1)=lagL ns k++[(((nd ns 0).us.length:Nat):Int)-((nd ns k).us.length:Nat)]:=by simp[lagL,List.range_succ]
theorem jta (ns:List Nd)(k:Nat):(lagL ns k).length=k:=by simp[lagL]
theorem jvc (ns:List Nd){k j:Nat}(h:j<k):(lagL ns k)[j]?=some ((((nd ns 0).us.length:Nat):Int)-((nd ns j).us.length:Nat)):=by simp[lagL,h]
theorem jd0 (view:Int)(a:Option Addr)(cap:Nat)(ns:List Nd)(w:World)(hv:chainOk view ns=true)(hx:NodesAt w a ns) :
  Calls tnp 136 #[.agg #[.int .i64 view,.slice a ns.length cap]] w λe w'=>∃g cap',e=.returned (.slice (some ⟨g,0,none⟩) ns.length cap')/\St w w' [row (.slice (some ⟨g,0,none⟩) ns.length cap') 3 1 ns.length ((lagL ns ns.length).map (Value.int .i64))]:=by
 have s0:=(St.start w).alloc (.cells #[.int .i64 view,.slice a ns.length cap] 34);obtain⟨hm,hs,h1,h5,hl⟩:=okS hv;have HV:=hid hv;have HX:=hid (λW (h:Below w.heap.size w W)=>hx.below h);clear hv;go_enter Twn.func136,Tryz.ntmps136
 go_wp2_with fail
 refine(jz _ _ _ _ _ hm hs (HX.out _ s0.below)).mono ?_;rw[HV.out];rintro e w1 ⟨rfl,hb⟩;have s1:=s0.call hb;clear s0 hb;obtain⟨b,off,rfl,_,_,_⟩:=(HX.out _ s1.below).cells 0 (by omega);have s2:=(s1.alloc (.cells #[] 3)).madeRow 1 0 rfl (by simp[maxLen]) 0 (Nat.le_refl _);have hul0:=hl 0 (by omega);have C0:=hid (λW (h:Below w.heap.size w W)=>(HX.out W h).cells 0 (by omega));have LS:=hid (jq9 ns);generalize hL:(nd ns 0).us.length=L at *;clear hx hL;obtain⟨c1,_⟩:=s2.at1.cells;go_wp2_with fail
 clear c1
 go_loopw [3,14] (λv i wr=>∃k:Nat,k<=ns.length/\i=.int .i64 k/\St w wr [row v 3 1 k ((lagL ns k).map (Value.int .i64)),box w.heap.size #[.int .i64 view,.slice (some ⟨b,off,none⟩) ns.length cap] 34]) (λ_ i _=>ns.length-(intOf i).toNat)
 case atStart=>exact⟨0,Nat.zero_le _,rfl,s2⟩
 case round=>
  clear s2 s1;obtain⟨k,hk,rfl,s3⟩:=hrel;by_cases hlt:k<ns.length
  ·obtain⟨b',off',e',c0,c1,c2⟩:=(HX.out _ s3.below).cells k hlt;cases e';have i1:(0:Int)<=(k:Int):=by omega
   have i2:(k:Int)<(ns.length:Int):=by omega
   have i3:0<ns.length:=by omega
   have SN:=hid (LS.out k);have hul:=hl k hlt;rcases hN:nd ns k with⟨q,y,c,us,d⟩;rw[hN]at c0 c1 c2 SN hul;dsimp only at c0 c1 c2 SN hul;clear hN;have s4:=(s3.alloc (.cells #[.int .i64 q,.slice y us.length c,.int .i64 d] 60)).at1;clear s3;go_wp2_with fail
   generalize wr.alloc (.cells #[.int .i64 q,.slice y us.length c,.int .i64 d] 60 (0,0))=w5 at *;generalize wr.heap.size=B at *;clear c0 c1 c2;obtain⟨b',off',e',_,p1,_⟩:=C0.out _ s4.below;cases e';have k1:=(s4.at1.cells.1 1).trans (show _=some (Value.slice y us.length c)from rfl);have k2:=(s4.at2.cells.1 1).trans (show _=some (Value.slice (some ⟨b,off,none⟩) ns.length cap)from rfl);have wr1:IntKind.i64.wrap ((L:Int)-(us.length:Int))=(L:Int)-(us.length:Int):=by rw[IntKind.wrap_i64];omega
   have o4:=s4.own;have z4:=s4.size;have HM:=hid (jta ns k);have l1:((lagL ns k).map (Value.int .i64)).length=k:=by simp[HM.out]
   go_region_law
    ((refine jtv jf4 (by rfl) _ _ (by rfl) w.heap.size u3 k ((lagL ns k).map (Value.int .i64)) (by rfl) w5.heap.size 1 1 (by rfl) #[.int .i64 ((L:Int)-(us.length:Int))] 3 (0,0) (by rfl) (by simp[Value.oneCell']) (by omega) (by omega) (by omega) (heap_alloc_new w5 _) (o4.alloc _).drew (by simp;omega) ?_);intro gg cap3 w7 hown hgrow hat hl7)
   all_goals
    have s5:=s4.app (jn5 (World.grownBy_alloc w5 _ none)) hown hgrow hat hl7;clear hown hgrow hat hl7;go_wp2_with fail
    go_roundw
    case rel=>exact⟨k+1,hlt,by go_num,by rw[SN.out];simpa using s5.at1.drop⟩
    case measure=>simp[intOf];omega
  ·obtain rfl:k=ns.length:=by omega
   obtain⟨g,cap',rfl,_⟩:=s3.own.form (by omega);go_wp2_with fail
   go_ret
   exact⟨g,cap',rfl,s3.only⟩
theorem jgn:Elem tnp 136 139 2 16:=by
 obtain⟨i,hi,h0,h1,h2⟩:=info_parts (show(tnp.info? 139).map (λi=>(i.zero,i.size,i.bytes))=some (some (.agg #[.bool false,.int .i64 0]),2,16) by kernel_rfl);exact⟨Twn.underlying136,i,_,hi,h0,h1,h2,rfl,by omega⟩
def qcells:List (Bool×Nat)->List Value
 | []=>[]
 | s::q=>.bool s.1::.int .i64 s.2::qcells q
theorem j9c:∀(p q:List (Bool×Nat)),qcells (p++q)=qcells p++qcells q
 | [],_=>rfl
 | s::p,q=>by simp[qcells,j9c p q]
theorem jec:∀q:List (Bool×Nat),(qcells q).length=q.length*2
 | []=>rfl
 | s::q=>by simp[qcells,jec q];omega
theorem jr3 (L:Nat)(f:Nat->Nat):∀(r k:Nat),qF L f k (r+1)=qF L f k r++List.replicate (L-f (k+r)) (k+r-1)
 | 0,k=>by simp[qF]
 | r+1,k=>by
  have ih:=jr3 L f r (k+1);rw[jk2,ih,jk2,List.append_assoc];rw[show k+1+r=k+(r+1) by omega]
def qN (ns:List Nd)(k:Nat):List (Bool×Nat):=(qF (nd ns 0).us.length (λj=>(nd ns j).us.length) 0 k).map (λx=>(false,x))
theorem jvo (ns:List Nd)(k:Nat):qN ns (k+1)=qN ns k++List.replicate ((nd ns 0).us.length-(nd ns k).us.length) (false,k-1):=by
 simp[qN,jr3]
theorem jlm (ns:List Nd):queueK (keys ns)=qN ns ns.length++(downs (ns.length-1)).map (λx=>(true,x)):=by
 have e:∀i,klen (keys ns) i=(nd ns i).us.length:=λi=>by unfold klen klog;rw[j25];rfl
 unfold queueK qP qN;rw[j17];congr 2;rw[e 0];exact jaw _ _ λj _=>e j
theorem jup (ns:List Nd)(h5:ns.length<=5)(hl:(nd ns 0).us.length<=12){k:Nat}(hk:k<=ns.length):(qN ns k).length<=60:=by
 have h1:(qN ns k).length<=k*(nd ns 0).us.length:=by
  unfold qN;rw[List.length_map];exact jr2 _ _
 have h4:=Nat.mul_le_mul (show k<=5 by omega) hl;omega
theorem jbp:∀k,(downs k).length=k
 | 0=>rfl
 | k+1=>by simp[downs,jbp k]
theorem j9i (view:Int)(a:Option Addr)(cap:Nat)(ns:List Nd)(w:World)(hv:chainOk view ns=true)(hx:NodesAt w a ns) :
  Calls tnp 122 #[.agg #[.int .i64 view,.slice a ns.length cap]] w λe w'=>∃g cap',e=.returned (.slice (some ⟨g,0,none⟩) (queueK (keys ns)).length cap')/\St w w' [row (.slice (some ⟨g,0,none⟩) (queueK (keys ns)).length cap') 139 2 (queueK (keys ns)).length (qcells (queueK (keys ns)))]:=by
 have s0:=((St.start w).alloc (.cells #[.int .i64 view,.slice a ns.length cap] 34)).alloc (.cells #[] 139);obtain⟨hm,hs,h1,h5,hl⟩:=okS hv;have CL:=hid (λW (h:Below w.heap.size w W)=>jd0 view a cap ns W hv (hx.below h));have LA:=hid (λk j (h:j<k)=>jvc ns h);have QS:=hid (jvo ns);have QL:=hid (λk (hk:k<=ns.length)=>jup ns h5 (hl 0 (by omega)) hk);have QI:=hid (jlm ns);have UL:=hid hl;clear hv hl;go_enter Twn.func122,Tryz.ntmps122
 go_wp2_with fail
 refine(CL.out _ s0.below).mono ?_;rintro e w1 ⟨g1,cap1,rfl,ss⟩;have s1:=(s0.join ss).at1.madeRow 2 0 rfl (by simp[maxLen]) 0 (Nat.le_refl _);clear ss s0;have hlen:(qN ns ns.length).length<=60:=QL.out _ (Nat.le_refl _);go_wp2_with fail
 go_loopw [3,11] (λq i wr=>∃(k g c:Nat),k<=ns.length/\i=.int .i64 k/\q=.slice (some ⟨g,0,none⟩) (qN ns k).length c/\St w wr (row (.slice (some ⟨g,0,none⟩) (qN ns k).length c) 139 2 (qN ns k).length (qcells (qN ns k))::[row (.slice (some ⟨g1,0,none⟩) ns.length cap1) 3 1 ns.length ((lagL ns ns.length).map (Value.int .i64)),box w.heap.size #[.int .i64 view,.slice a ns.length cap] 34])) (λ_ i _=>ns.length-(intOf i).toNat)
 case atStart=>exact⟨0,w.heap.size+1,0,Nat.zero_le _,rfl,by simp[qN,qF],by simpa[qN,qF,qcells]using s1⟩
 case round=>
  clear s1;obtain⟨k,g,c,hk,rfl,rfl,s2⟩:=hrel;by_cases hlt:k<ns.length
  ·have i1:(0:Int)<=(k:Int):=by omega
   have i2:(k:Int)<(ns.length:Int):=by omega
   have cl:=s2.at1.own.cellAt k (by omega);rw[List.getElem?_map,LA.out ns.length k hlt]at cl;have QK:=hid (QS.out k);have hqk:=QL.out k (by omega);have hul:=UL.out k hlt;have hul0:=UL.out 0 (by omega);obtain⟨lg,hlg⟩:∃lg,(nd ns 0).us.length-(nd ns k).us.length=lg:=⟨_,rfl⟩;have K0:k=0->lg=0:=λe=>by subst e;omega
   rw[hlg]at QK;generalize hL:(nd ns 0).us.length=L at *;generalize hM:(nd ns k).us.length=M at *;clear hL hM;simp only[Option.map_some]at cl;go_wp2_with fail
   go_loopw [3,17] (λq j wr=>∃(m g c:Nat),m<=lg/\j=.int .i64 m/\q=.slice (some ⟨g,0,none⟩) ((qN ns k).length+m) c/\St w wr (row (.slice (some ⟨g,0,none⟩) ((qN ns k).length+m) c) 139 2 ((qN ns k).length+m) (qcells (qN ns k++List.replicate m (false,k-1)))::[row (.slice (some ⟨g1,0,none⟩) ns.length cap1) 3 1 ns.length ((lagL ns ns.length).map (Value.int .i64)),box w.heap.size #[.int .i64 view,.slice a ns.length cap] 34])) (λ_ j _=>lg-(intOf j).toNat)
   case atStart=>exact⟨0,g,c,Nat.zero_le _,rfl,rfl,by simpa using s2⟩
   case round=>
    clear s2 cl;obtain⟨m,g,c,hm',rfl,rfl,s3⟩:=hrel;by_cases hmt:m<lg
    ·obtain⟨kp,hkp⟩:∃kp,k=kp+1:=⟨k-1,by omega⟩;have ew:IntKind.i64.wrap ((k:Int)-1)=(kp:Int):=by rw[IntKind.wrap_i64];omega
     have j1:(m:Int)<(L:Int)-(M:Int):=by omega
     have RP:Hid (List.replicate (m+1) (false,k-1)=List.replicate m (false,k-1)++[(false,kp)]):=hid (by rw[List.replicate_succ',hkp];rfl);have o3:=s3.own;have z3:=s3.size;clear hkp K0;go_wp2_with ((at_builtin;refine j36 jgn (by rfl) _ _ (by rfl) w.heap.size (.slice (some ⟨g,0,none⟩) ((qN ns k).length+m) c) ((qN ns k).length+m) (qcells (qN ns k++List.replicate m (false,k-1))) (by rfl) wr.heap.size 1 1 (by rfl) #[.bool false,.int .i64 kp] 139 (0,0) (by rfl) (by simp[Value.oneCell']) (by omega) (by omega) (by omega) (heap_alloc_new wr _) (o3.alloc _) (by simp;omega) ?_);intro gg cap3 w7 hown hgrow hat hl)
     have s4:=s3.app (World.grownBy_alloc wr _ none) hown hgrow hat hl;have CE:Hid (qcells (qN ns k++List.replicate m (false,k-1))++[.bool false,.int .i64 kp]=qcells (qN ns k++List.replicate (m+1) (false,k-1))):=hid (by
      rw[RP.out,<- List.append_assoc,j9c (qN ns k++List.replicate m (false,k-1))];rfl)
     clear hown hgrow hat hl s3 o3;go_wp2_with fail
     go_roundw
     case rel=>exact⟨m+1,gg,cap3,hmt,by go_num,rfl,by rw[<- CE.out];exact s4⟩
     case measure=>simp[intOf];omega
    ·obtain rfl:m=lg:=by omega
     have j1:¬((m:Int)<(L:Int)-(M:Int)):=by omega
     have LE:(qN ns (k+1)).length=(qN ns k).length+m:=by rw[QK.out];simp
     have QK2:=hid (QK.out);clear QK;go_wp2_with fail
     go_roundw
     case rel=>exact⟨k+1,g,c,hlt,by go_num,by rw[LE],by rw[LE,QK2.out];exact s3⟩
     case measure=>simp[intOf];omega
  ·obtain rfl:k=ns.length:=by omega
   have DL:((downs (ns.length-1)).map (λx=>(true,x))).length=ns.length-1:=by rw[List.length_map,jbp]
   have cb:=(s2.at2.cells.1 1).trans (show _=some (Value.slice a ns.length cap)from rfl);have ew:IntKind.i64.wrap ((ns.length:Int)-2)=(ns.length:Int)-2:=by rw[IntKind.wrap_i64];omega
   generalize hD:(downs (ns.length-1)).map (λx=>(true,x))=D at *;have DN:=hid hD;clear hD;go_wp2_with fail
   go_loopw [3,6] (λq i wr=>∃(m:Nat) (pre:List (Bool×Nat)) (g c:Nat),m+1<=ns.length/\i=.int .i64 ((m:Int)-1)/\pre++(downs m).map (λx=>(true,x))=D/\pre.length+m=ns.length-1/\q=.slice (some ⟨g,0,none⟩) ((qN ns ns.length).length+pre.length) c/\St w wr [row (.slice (some ⟨g,0,none⟩) ((qN ns ns.length).length+pre.length) c) 139 2 ((qN ns ns.length).length+pre.length) (qcells (qN ns ns.length++pre))]) (λ_ i _=>(intOf i+1).toNat)
   case atStart=>exact⟨ns.length-1,[],g,c,by omega,by congr 1;omega,DN.out,by simp,rfl,by simpa using s2.only⟩
   case round=>
    clear s2 cb;obtain⟨m,pre,g,c,hm',rfl,hpre,hpl,rfl,s3⟩:=hrel;have HP:=hid hpre;clear hpre;cases m with
    | succ m=>
     rw[show(((m+1:Nat):Int)-1)=(m:Int) by omega];have ew2:IntKind.i64.wrap ((m:Int)-1)=(m:Int)-1:=by rw[IntKind.wrap_i64];omega
     have o3:=s3.own;have z3:=s3.size;go_wp2_with ((at_builtin;refine j36 jgn (by rfl) _ _ (by rfl) w.heap.size (.slice (some ⟨g,0,none⟩) ((qN ns ns.length).length+pre.length) c) ((qN ns ns.length).length+pre.length) (qcells (qN ns ns.length++pre)) (by rfl) wr.heap.size 1 1 (by rfl) #[.bool true,.int .i64 m] 139 (0,0) (by rfl) (by simp[Value.oneCell']) (by omega) (by omega) (by omega) (heap_alloc_new wr _) (o3.alloc _) (by simp;omega) ?_);intro gg cap3 w7 hown hgrow hat hl)
     have s4:=s3.app (World.grownBy_alloc wr _ none) hown hgrow hat hl;have CE:Hid (qcells (qN ns ns.length++pre)++[.bool true,.int .i64 m]=qcells (qN ns ns.length++(pre++[(true,m)]))):=hid (by
      rw[<- List.append_assoc,j9c (qN ns ns.length++pre)];rfl)
     clear hown hgrow hat hl s3 o3;go_wp2_with fail
     go_roundw
     case rel=>exact⟨m,pre++[(true,m)],gg,cap3,by omega,rfl,by rw[List.append_assoc];exact HP.out,by simp;omega,by simp[Nat.add_assoc],by
      have e:(pre++[(true,m)]).length=pre.length+1:=by simp
      rw[<- CE.out,e];exact s4⟩
     case measure=>simp[intOf]
    | zero=>
     have e0:(((0:Nat):Int)-1)=-1:=by omega
     rw[e0];have QE:Hid (queueK (keys ns)=qN ns ns.length++pre):=hid (by
      rw[QI.out,<- HP.out];simp[downs])
     go_wp2_with fail
     go_ret
     exact⟨g,c,by rw[QE.out,List.length_append];rfl,by rw[QE.out,List.length_append];exact s3⟩
theorem St.skip {w0 w:World}{A G R:List Res}(h:St w0 w (A++(G++R))):St w0 w (A++R):=by
 refine St.take (A++R) G rfl (h.perm ?_);rw[List.append_assoc];exact List.Perm.append_left A List.perm_append_comm
theorem St.rest {w0 w:World}{A R:List Res}(h:St w0 w (A++R)):St w0 w R:=St.take R A rfl (h.perm List.perm_append_comm)
theorem St.setIn {w0 w:World}{b:Nat}{cs:Array Value}{t:TypeId}(L1 L2:List Res)(o:Nat)(v:Value)(h:St w0 w (L1++box b cs t::L2)):St w0 (w.setCell ⟨b,o,none⟩ v) (L1++box b (cs.setIfInBounds o v) t::L2):=
 ((h.perm List.perm_middle).set o v).perm List.perm_middle.symm
theorem jo3 {ks:List Key}(k:Nat):stepQ ks (true,k)=tellK ks (k:Int):=by rw[jb0];rfl
theorem jo2 {ks:List Key}(k:Nat):stepQ ks (false,k)=passK ks (k:Int):=by rw[jau];rfl
theorem jbs {w1:World}{view:Int}{o:Option (List Key)}{e:Ending}{w':World}(h:GaveO w1 view o e w'):∃num ks ok,GaveChain w1 num ks ok e w'/\ok=o.isSome/\(∀ls,o=some ls->num=view/\ks=ls)/\∀w e w',GaveChain w num ks ok e w'->GaveO w view o e w':=by
 cases o with
 | none=>exact⟨0,[],false,h,rfl,(λ_ e=>by cases e),λ_ _ _ h=>h⟩
 | some ks=>exact⟨view,ks,true,h,rfl,(λ_ e=>by cases e;exact⟨rfl,rfl⟩),λ_ _ _ h=>h⟩
theorem jsy (t:Bool)(k:Nat)(view:Int)(a:Option Addr)(cap:Nat)(ns:List Nd)(w:World)(hv:chainOk view ns=true)(hx:NodesAt w a ns) :
  Calls tnp 123 #[.agg #[.bool t,.int .i64 k],.agg #[.int .i64 view,.slice a ns.length cap]] w (GaveO w view (stepQ (keys ns) (t,k))):=by
 have s0:=(((St.start w).alloc (.cells #[.bool t,.int .i64 k] 139)).allocAt (.cells #[.int .i64 view,.slice a ns.length cap] 34) (w.heap.size+1) (by simp)).allocAt (.cells #[.int .i64 0,.slice none 0 0] 34) (w.heap.size+1+1) (by simp);have CT:=hid (λW (h:Below w.heap.size w W)=>j5r view a cap ns k W hv (hx.below h));have CP:=hid (λW (h:Below w.heap.size w W)=>j5q view a cap ns k W hv (hx.below h));rw[<- jo3]at CT;rw[<- jo2]at CP;clear hv hx;cases t with
 | true=>
  generalize stepQ (keys ns) (true,k)=o at *;go_enter Twn.func123,Tryz.ntmps123
  go_wp2_with fail
  refine(CT.out _ s0.below).mono ?_;intro e w1 hg;obtain⟨num,ls,ok,⟨a',cap',ms,rfl,hk,ss⟩,-,-,HG⟩:=jbs hg;have s1:=s0.join ss;obtain⟨c1,f1⟩:=(s1.perm List.perm_middle).cells;have s2:=(s1.setIn _ _ 0 (.int .i64 num)).setIn _ _ 1 (.slice a' ms.length cap');have q2:=(s2.perm List.perm_middle).cells.1;have FIN:=hid (HG w _ _ (gaveChain s2 rfl hk rfl));clear s0 s1 s2 ss HG hg;go_wp2_with fail
  exact bodyPost_ret (v:=.tuple #[.agg #[.int .i64 num,.slice a' ms.length cap'],.bool ok]) (by simp[results,Tryz.results123,go_sem,q2]) rfl FIN.out
 | false=>
  generalize stepQ (keys ns) (false,k)=o at *;go_enter Twn.func123,Tryz.ntmps123
  go_wp2_with fail
  refine(CP.out _ s0.below).mono ?_;intro e w1 hg;obtain⟨num,ls,ok,⟨a',cap',ms,rfl,hk,ss⟩,-,-,HG⟩:=jbs hg;have s1:=s0.join ss;obtain⟨c1,f1⟩:=(s1.perm List.perm_middle).cells;have s2:=(s1.setIn _ _ 0 (.int .i64 num)).setIn _ _ 1 (.slice a' ms.length cap');have q2:=(s2.perm List.perm_middle).cells.1;have FIN:=hid (HG w _ _ (gaveChain s2 rfl hk rfl));clear s0 s1 s2 ss HG hg;go_wp2_with fail
  exact bodyPost_ret (v:=.tuple #[.agg #[.int .i64 num,.slice a' ms.length cap'],.bool ok]) (by simp[results,Tryz.results123,go_sem,q2]) rfl FIN.out
theorem jvs {v:Int}{ks ls:List Key}{s:Bool×Nat}(h:VP v ks)(hs:stepQ ks s=some ls):VP v ls:=by
 unfold stepQ at hs;split at hs
 ·exact h.tell hs
 ·exact h.pass hs
theorem jk7 (N r F O G:Res)(A B R:List Res):(N::((r::A)++(F::O::G::(B++R)))).Perm (O::(r::A)++((N::F::G::B)++R)):=by
 have e1:N::((r::A)++(F::O::G::(B++R)))=(N::r::(A++[F]))++O::(G::(B++R)):=by simp
 rw[e1];refine List.perm_middle.trans (List.Perm.cons _ ?_);have e2:(N::r::(A++[F]))++G::(B++R)=[N]++((r::A)++(F::G::(B++R))):=by simp
 rw[e2];refine(List.perm_append_comm_assoc [N] (r::A) _).trans ?_;simp
def lenOf:Value->Nat
 | .slice _ n _=>n
 | _=>0
theorem j8t (view:Int)(a:Option Addr)(cap:Nat)(ns:List Nd)(w:World)(hv:chainOk view ns=true)(hx:NodesAt w a ns) :
  Calls tnp 103 #[.agg #[.int .i64 view,.slice a ns.length cap]] w λe w'=>∃(a':Option Addr) (cap':Nat) (ms:List Nd),e=.returned (.tuple #[.agg #[.int .i64 view,.slice a' ms.length cap'],.int .i64 (settleK (keys ns)).2])/\keys ms=(settleK (keys ns)).1/\St w w' (row (.slice a' ms.length cap') 60 3 ms.length (ncells ms)::nds ms):=by
 have s0:=((St.start w).alloc (.cells #[.int .i64 view,.slice a ns.length cap] 34)).allocAt (.cells #[.int .i64 0,.slice none 0 0] 34) (w.heap.size+1) (by simp);obtain⟨hm,hs,h1,h5,hl⟩:=okS hv;have VPK:VP view (keys ns):=j1p.1 (by rw[<- jt];exact hv);have HX:=hid (λW (h:Below w.heap.size w W)=>hx.below h);have HV:=hid hv;have CC:=hid (λW (h:Below w.heap.size w W)=>j32 view a cap ns W h5 hl (hx.below h));have SQ:=hid (λW (h:Below w.heap.size w W)=>j9i view a cap ns W hv (hx.below h));have KS:Hid (runQ (queueK (keys ns)) (keys ns) 0=settleK (keys ns)):=hid rfl;have QL:(queueK (keys ns)).length<=100:=by
  have e:=jlm ns;have l1:=jup ns h5 (hl 0 (by omega)) (Nat.le_refl _);rw[e,List.length_append,List.length_map,jbp];omega
 have VPH:=hid VPK;clear VPK hv hx;generalize hQ:queueK (keys ns)=qq at *;generalize hK:settleK (keys ns)=sk at *;clear hQ hK;go_enter Twn.func103,Tryz.ntmps103
 go_wp2_with fail
 refine(jz _ _ _ _ _ hm hs (HX.out _ s0.below)).mono ?_;rw[HV.out];rintro e w1 ⟨rfl,hb⟩;have s1:=s0.call hb;clear s0 hb;obtain⟨c1,_⟩:=s1.drop.cells;go_wp2_with fail
 refine(CC.out _ s1.below).mono ?_;rintro e w2 ⟨G,ms0,rfl,hkey,hml,ss⟩;have s2:=(s1.join ss).alloc (.cells #[.int .i64 view,.slice (some ⟨G,0,none⟩) ns.length ns.length] 34);clear ss s1 c1;have k0:=s2.boxIn (V:=w.heap.size) (cs:=#[.int .i64 view,.slice a ns.length cap]) (t:=34) (by simp) 0 rfl;have k1:=s2.boxIn (V:=w.heap.size) (cs:=#[.int .i64 view,.slice a ns.length cap]) (t:=34) (by simp) 1 rfl;generalize hO:w2.heap.size=O at *;go_wp2_with fail
 generalize w2.alloc (.cells #[.int .i64 view,.slice (some ⟨G,0,none⟩) ns.length ns.length] 34 (0,0))=w2' at *;refine(SQ.out _ s2.below).mono ?_;rintro e w3 ⟨g1,cap1,rfl,sq⟩;have s3:St w w3 (box O #[.int .i64 view,.slice (some ⟨G,0,none⟩) ns.length ns.length] 34::row (.slice (some ⟨G,0,none⟩) ns.length ns.length) 60 3 ns.length (ncells ms0)::(nds ms0++(row (.slice (some ⟨g1,0,none⟩) qq.length cap1) 139 2 qq.length (qcells qq)::[box (w.heap.size+1) #[.int .i64 0,.slice none 0 0] 34,box w.heap.size #[.int .i64 view,.slice a ns.length cap] 34]))):=by
  refine(s2.join sq).perm ?_;exact(List.perm_middle (l₁:=box O #[.int .i64 view,.slice (some ⟨G,0,none⟩) ns.length ns.length] 34::row (.slice (some ⟨G,0,none⟩) ns.length ns.length) 60 3 ns.length (ncells ms0)::nds ms0)).symm
 have hqc:qq.length<=cap1:=by
  rcases sq.own.2 with⟨h,_⟩|⟨g,cp,cur,e,_,h2,h3,_⟩
  ·cases h
  ·cases e;exact h3
 have Q0:∀W R,St w W (row (.slice (some ⟨g1,0,none⟩) qq.length cap1) 139 2 qq.length (qcells qq)::R)->CellsAt W (some ⟨g1,0,none⟩) (qcells (qq.drop 0)):=λW R h=>j2z h.own;have SF:=hid (λ(x:Option Addr) (n c:Nat) (h:1<=n) (w:World)=>show(Instr.slice 136 (.slice x n c) (some (.int .i64 1)) none none).run tnp w=.ok (.slice (cutAt x c 1 2) (n-1) (c-1)) w from jfu 136 139 2 x n c 1 Twn.underlying136 (by kernel_rfl) h w);rw[<- hkey]at VPH KS;clear sq s2 k0 k1;go_wp2_with fail
 go_loopw [5,6] (λs5 s6 wr=>∃(i n c:Nat) (x y:Option Addr) (yc:Nat) (ms:List Nd),i<=qq.length/\s5=.int .i64 n/\s6=.slice x (qq.length-i) c/\qq.length-i<=c/\(∀W R,St w W (row (.slice (some ⟨g1,0,none⟩) qq.length cap1) 139 2 qq.length (qcells qq)::R)->CellsAt W x (qcells (qq.drop i)))/\VP view (keys ms)/\runQ (qq.drop i) (keys ms) n=sk/\n<=i/\St w wr (box O #[.int .i64 view,.slice y ms.length yc] 34::row (.slice y ms.length yc) 60 3 ms.length (ncells ms)::(nds ms++(row (.slice (some ⟨g1,0,none⟩) qq.length cap1) 139 2 qq.length (qcells qq)::[box (w.heap.size+1) #[.int .i64 0,.slice none 0 0] 34,box w.heap.size #[.int .i64 view,.slice a ns.length cap] 34])))) (λ_ q _=>lenOf q)
 case atStart=>exact⟨0,0,cap1,some ⟨g1,0,none⟩,some ⟨G,0,none⟩,ns.length,ms0,Nat.zero_le _,rfl,by simp,by simpa using hqc,Q0,VPH.out,KS.out,Nat.le_refl _,by rw[hml];exact s3⟩
 case round=>
  clear s3 Q0 hqc;obtain⟨i,n,c,x,y,yc,ms,hi,rfl,rfl,hc,hP,hV,hrun,hn,s4⟩:=hrel;have VH:=hid hV;have RH:=hid hrun;have PH:=hid hP;clear hV hrun hP;by_cases hlt:i<qq.length
  ·have DR:=hid (List.drop_eq_getElem_cons hlt);have hcv:chainOk view ms=true:=by rw[jt];exact j1p.2 VH.out
   have CA:=PH.out wr _ (s4.pull (r:=row (.slice (some ⟨g1,0,none⟩) qq.length cap1) 139 2 qq.length (qcells qq)) (by simp));have RD:=hid (RH.out);rw[DR.out]at CA RD;generalize qq[i]=st at *;obtain⟨t,k⟩:=st;obtain⟨b,off,rfl,hcell⟩:=CA.resolve_left (by simp[qcells]);have c0:=hcell 0 (by simp[qcells]);have c1:=hcell 1 (by simp[qcells]);simp only[qcells,List.getElem?_cons_zero,List.getElem?_cons_succ,Nat.add_zero]at c0 c1;have i2:(0:Int)<((qq.length-i:Nat):Int):=by omega
   have SG:=SF.out (some ⟨b,off,none⟩) (qq.length-i) c (by omega);have NX:Hid (∀W R,St w W (row (.slice (some ⟨g1,0,none⟩) qq.length cap1) 139 2 qq.length (qcells qq)::R)->CellsAt W (cutAt (some ⟨b,off,none⟩) c 1 2) (qcells (qq.drop (i+1)))):=hid (λW R h=>by
    have:=j8r (PH.out W R h) c 1 2 (by rw[jec,List.length_drop];exact Nat.mul_le_mul_right _ hc);rw[DR.out]at this;simpa[qcells]using this)
   have s5:=s4.alloc (.cells #[.bool t,.int .i64 k] 139);obtain⟨cO,_⟩:=s5.drop.cells;clear CA hcell;go_wp2_with fail
   refine(jsy t k view y yc ms _ hcv (j1s s5.drop rfl)).mono ?_;intro e w5 hg;clear cO c0 c1;cases hst:stepQ (keys ms) (t,k)with
   | none=>
    rw[hst]at hg;obtain⟨a',cap',ms',rfl,hk,ss⟩:=hg;have s6:=(s5.join ss).alloc (.cells #[.int .i64 0,.slice a' ms'.length cap'] 34);have FIN:=hid (s6.drop.rest).drop;have RN:Hid (runQ (qq.drop (i+1)) (keys ms) n=sk):=hid (by rw[<- RD.out,ji0 hst]);clear s6 ss s5 s4 hst hk;go_wp2_with fail
    go_roundw
    case rel=>exact⟨i+1,n,c-1,_,y,yc,ms,hlt,rfl,by rw[show qq.length-(i+1)=qq.length-i-1 by omega],by omega,NX.out,VH.out,RN.out,by omega,FIN.out⟩
    case measure=>simp[lenOf];omega
   | some ls=>
    rw[hst]at hg;obtain⟨a',cap',ms',rfl,hk,ss⟩:=hg;have s6:=((s5.join ss).alloc (.cells #[.int .i64 view,.slice a' ms'.length cap'] 34)).perm (jk7 _ _ _ _ _ _ _ _);have RN:Hid (runQ (qq.drop (i+1)) (keys ms') (n+1)=sk):=hid (by rw[<- RD.out,jcj hst,hk]);have VN:Hid (VP view (keys ms')):=hid (by rw[hk];exact jvs VH.out hst);obtain⟨cO,fO⟩:=s6.cells;have s7:=(s6.set 0 (.int .i64 view)).set 1 (.slice a' ms'.length cap');have FIN:=hid (St.skip (A:=box O #[.int .i64 view,.slice a' ms'.length cap'] 34::row (.slice a' ms'.length cap') 60 3 ms'.length (ncells ms')::nds ms') (G:=_::_::_::nds ms) s7);clear s6 s7 ss s5 s4 hst hk;go_wp2_with fail
    go_roundw
    case rel=>exact⟨i+1,n+1,c-1,_,a',cap',ms',hlt,by go_num,by rw[show qq.length-(i+1)=qq.length-i-1 by omega],by omega,NX.out,VN.out,RN.out,by omega,FIN.out⟩
    case measure=>simp[lenOf];omega
  ·obtain rfl:i=qq.length:=by omega
   have RE:=RH.out;rw[List.drop_length]at RE;have s5:St w wr (box O #[.int .i64 view,.slice y ms.length yc] 34::row (.slice y ms.length yc) 60 3 ms.length (ncells ms)::((nds ms++[row (.slice (some ⟨g1,0,none⟩) qq.length cap1) 139 2 qq.length (qcells qq)])++(box (w.heap.size+1) #[.int .i64 0,.slice none 0 0] 34::[box w.heap.size #[.int .i64 view,.slice a ns.length cap] 34]))):=by simpa using s4
   obtain⟨cO,cR,fR,qR,t1,q0,t0⟩:=j1u s5;have FIN:=hid (St.take (row (.slice y ms.length yc) 60 3 ms.length (ncells ms)::nds ms) _ (by rw[List.append_assoc];rfl) t1);have RF:Hid (sk=(keys ms,n)):=hid RE.symm;have i0:qq.length-qq.length=0:=Nat.sub_self _;rw[i0];clear s4 s5 t1 t0 q0 RE;go_wp2_with fail
   exact bodyPost_ret (v:=.tuple #[.agg #[.int .i64 view,.slice y ms.length yc],.int .i64 n]) (by simp[results,Tryz.results103,go_sem,qR]) rfl ⟨y,yc,ms,by rw[RF.out],by rw[RF.out],FIN.out⟩
theorem j83 (ns:List Nd):(keys ns).map (·.1)=ns.map Nd.id:=by simp[keys,keyOf]
theorem jed {ns:List Nd}{id key:Int}(h:¬(0<=key/\key<=4)):readAtK (keys ns) id key=(0,3):=by
 unfold readAtK;rw[if_neg λhc=>h hc.1]
theorem jcg {ns:List Nd}{id key:Int}(h:¬0<=cplace ns id):readAtK (keys ns) id key=(0,3):=by
 unfold readAtK;rw[if_neg λhc=>h (by rw[j83]at hc;exact hc.2)]
theorem jhy {ns:List Nd}{id key:Int}{p:Nat}(hk:0<=key/\key<=4)(h:cplace ns id=p):readAtK (keys ns) id key=if(nodeReadK (keyOf (nd ns p)) key).2=1 then askK (keys ns) key else nodeReadK (keyOf (nd ns p)) key:=by
 have e:place ((keys ns).map (·.1)) id=p:=by rw[j83];exact h
 unfold readAtK;rw[e,if_pos ⟨hk,by omega⟩,Int.toNat_natCast,j25]
theorem jbm {ns:List Nd}{x:Int}(h:0<=cplace ns x):∃p:Nat,p<ns.length/\cplace ns x=p:=by
 obtain⟨i,hi,_,e⟩:=j6j h;exact⟨i,by simpa using hi,e⟩
theorem jkn (ks:List Key)(key:Int):((askK ks key).2=1\/askK ks key=(0,2)):=by
 unfold askK;split
 ·exact .inr rfl
 ·exact .inl rfl
theorem j8s (view:Int)(a:Option Addr)(cap:Nat)(ns:List Nd)(id key:Int)(w:World)(hv:chainOk view ns=true)(hx:NodesAt w a ns) :
  Calls tnp 105 #[.agg #[.int .i64 view,.slice a ns.length cap],.int .i64 id,.int .i64 key] w λe w'=>e=.returned (.tuple #[.int .i64 (readAtK (keys ns) id key).1,.int .i64 (readAtK (keys ns) id key).2])/\Below w.heap.size w w':=by
 have s0:=(St.start w).alloc (.cells #[.int .i64 view,.slice a ns.length cap] 34);obtain⟨hm,hs,h1,h5,hl⟩:=okS hv;have CV:=jz view a cap ns _ hm hs (hx.below s0.below);rw[hv]at CV;have CP:=hid (λW (h:Below w.heap.size w W)=>j29 view a cap ns id W hm (hx.below h));have CR:=hid (λ(k:Nat) (hk:k<=4) W (h:Below w.heap.size w W)=>jb3 view a cap ns k W hv hk (hx.below h));have RB:=hid (jed (ns:=ns) (id:=id) (key:=key));have RN:=hid (jcg (ns:=ns) (id:=id) (key:=key));have RA:=hid (λp=>jhy (ns:=ns) (id:=id) (key:=key) (p:=p));have CL:=hid (jbm (ns:=ns) (x:=id));have HX:=hid (λW (h:Below w.heap.size w W)=>hx.below h);have OKN:=hid (λp (h:p<ns.length)=>((j1c.1 hv).2.2.1 p h).1);have A2:=hid (jkn (keys ns) key);generalize readAtK (keys ns) id key=r at *;generalize cplace ns id=cp at *;clear hv hs hx hl;go_enter Twn.func105,Tryz.ntmps105
 go_wp2_with fail
 refine CV.mono ?_;rintro e w1 ⟨rfl,hb⟩;have s1:=s0.call hb;obtain⟨c1,_⟩:=s1.cells;clear CV hb s0;go_wp2_with fail
 by_cases hk:0<=key/\key<=4
 ·refine(j2x key _ hk).mono ?_;rintro e w2 ⟨rfl,rfl⟩;go_wp2_with fail
  refine(CP.out _ s1.below).mono ?_;rintro e w2 ⟨rfl,hb⟩;have s2:=s1.call hb;obtain⟨c2,_⟩:=s2.cells;clear hb s1 c1;by_cases hp:0<=cp
  ·obtain⟨p,hpl,e⟩:=CL.out hp;have RA2:=hid (RA.out p hk e);subst e;obtain⟨k,rfl⟩:∃k:Nat,key=k:=⟨key.toNat,by omega⟩;have hk4:k<=4:=by omega
   obtain⟨b,off,rfl,p0,p1,p2⟩:=(HX.out _ s2.below).cells p hpl;have UX:=((HX.out _ s2.below).2.at hpl);have OK:=OKN.out p hpl;have i1:(0:Int)<=(p:Int):=by omega
   have i2:(p:Int)<(ns.length:Int):=by omega
   rcases hN:nd ns p with⟨q,y,c,us,d⟩;rw[hN]at p0 p1 p2 UX OK RA2;dsimp only at p0 p1 p2 UX OK;obtain⟨dn,rfl⟩:∃dn:Nat,d=dn:=⟨d.toNat,by have:=(j1o.1 OK).2.2.1;omega⟩;have NR:=jdf q dn y c us k _ OK UX.2 hk4 UX.1;have RA3:Hid (r=if(nodeReadK (q,us,(dn:Int)) k).2=1 then askK (keys ns) k else nodeReadK (q,us,(dn:Int)) k):=hid RA2.out;generalize nodeReadK (q,us,(dn:Int)) k=nr at *;obtain⟨n1,n2⟩:=nr;clear hN hk hp hpl UX OK RA2;go_wp2_with fail
   refine NR.mono ?_;rintro e w3 ⟨rfl,hb⟩;have s3:=s2.call hb;obtain⟨c3,_⟩:=s3.cells;clear hb s2 NR c2 p0 p1 p2;by_cases hn:n2=1
   ·have R1:=hid (RA3.out.trans (if_pos hn));subst hn;go_wp2_with fail
    refine(CR.out k hk4 _ s3.below).mono ?_;rintro e w4 ⟨rfl,hb⟩;have FIN:=hid (s3.call hb).below;clear hb s3 c3;generalize askK (keys ns) k=ak at *;obtain⟨a1,a2⟩:=ak;dsimp only at *;by_cases h1:a2=1
    ·subst h1;go_wp2_with fail
     exact bodyPost_ret (v:=.tuple #[.int .i64 a1,.int .i64 1]) (by simp[results,Tryz.results105,go_sem]) rfl ⟨by rw[R1.out],FIN.out⟩
    ·have e2:=A2.out.resolve_left h1;cases e2;go_wp2_with fail
     exact bodyPost_ret (v:=.tuple #[.int .i64 0,.int .i64 2]) (by simp[results,Tryz.results105,go_sem]) rfl ⟨by rw[R1.out],FIN.out⟩
   ·have R1:=hid (RA3.out.trans (if_neg hn));have FIN:=hid s3.below;have hn1:(n2 != 1)=true:=by simpa using hn
    have hn2:(n2==1)=false:=by simpa using hn
    clear s3 c3 hn;go_wp2_with fail
    exact bodyPost_ret (v:=.tuple #[.int .i64 n1,.int .i64 n2]) (by simp[results,Tryz.results105,go_sem]) rfl ⟨by rw[R1.out],FIN.out⟩
  ·have R:=hid (RN.out (by omega));have FIN:=hid s2.below;have hp2:cp<0:=by omega
   clear hp s2 c2;go_wp2_with fail
   exact bodyPost_ret (v:=.tuple #[.int .i64 0,.int .i64 3]) (by simp[results,Tryz.results105,go_sem]) rfl ⟨by rw[R.out],FIN.out⟩
 ·refine(jbz key _ hk).mono ?_;rintro e w2 ⟨rfl,rfl⟩;have R:=hid (RB.out hk);have FIN:=hid s1.below;clear hk s1 c1;go_wp2_with fail
  exact bodyPost_ret (v:=.tuple #[.int .i64 0,.int .i64 3]) (by simp[results,Tryz.results105,go_sem]) rfl ⟨by rw[R.out],FIN.out⟩
theorem jgo {α β:Type}(f:α->β):∀(l:List α)(i:Nat),(l.map f).eraseIdx i=(l.eraseIdx i).map f
 | [],_=>rfl
 | _::_,0=>rfl
 | a::l,i+1=>by simp only[List.map_cons,List.eraseIdx_cons_succ,jgo f l i]
theorem jh5 (ns:List Nd)(i:Nat):keys (left ns i)=fixK ((keys ns).eraseIdx i):=by
 have e:(keys ns).eraseIdx i=keys (ns.eraseIdx i):=by unfold keys;rw[jgo]
 rw[e];unfold left fixTail fixK kid klog;rw[j6h rfl,j17,j25];rfl
theorem jj6 {view x:Int}{ns:List Nd}(hv:chainOk view ns=true):dropK view (keys ns) x=if dropOk view ns x=true then some (dropKeys view ns x)else none:=by
 unfold dropK guardK;rw[j83,<- jh5,<- jt];show(if 0<=cplace ns x then(if chainOk (view+1) (left ns (cplace ns x).toNat)=true then some (keys (left ns (cplace ns x).toNat))else none)else none)=_;by_cases h1:0<=cplace ns x
 ·rw[if_pos h1];by_cases h2:chainOk (view+1) (left ns (cplace ns x).toNat)=true
  ·have hd:dropOk view ns x=true:=by rw[dropOk,hv,decide_eq_true h1,h2];rfl
   rw[if_pos h2,if_pos hd,dropKeys,if_pos hd]
  ·have hd:¬dropOk view ns x=true:=by rw[dropOk,hv,decide_eq_true h1];simpa using h2
   rw[if_neg h2,if_neg hd]
 ·have hd:¬dropOk view ns x=true:=by rw[dropOk,hv,decide_eq_false h1];simp
  rw[if_neg h1,if_neg hd]
theorem jlx {view x:Int}{ns:List Nd}(hv:chainOk view ns=true):addK view (keys ns) x=if addOk view ns x=true then some (addKeys view ns x)else none:=by
 have e:keys ns++[(x,klog (keys ns) ((keys ns).length-1),((klog (keys ns) ((keys ns).length-1)).length:Int))]=keys (joined ns x):=by
  unfold joined klog;rw[j17,j25];simp[keys,keyOf]
 unfold addK guardK;rw[e,<- jt];by_cases h2:chainOk (view+1) (joined ns x)=true
 ·have hd:addOk view ns x=true:=by rw[addOk,hv,h2];rfl
  rw[if_pos h2,if_pos hd,addKeys,if_pos hd]
 ·have hd:¬addOk view ns x=true:=by rw[addOk,hv];simpa using h2
  rw[if_neg h2,if_neg hd]
theorem jis (view:Int)(a:Option Addr)(cap:Nat)(ns:List Nd)(x:Int)(w:World)(hv:chainOk view ns=true)(hx:NodesAt w a ns) :
  Calls tnp 101 #[.agg #[.int .i64 view,.slice a ns.length cap],.int .i64 x] w (GaveO w (view+1) (dropK view (keys ns) x)):=by
 obtain⟨hm,hs,h1,h5,hl⟩:=okS hv;refine(jb1 view a cap ns x w hm hs hx).mono λe w' hg=>?_;rw[jj6 hv];by_cases hd:dropOk view ns x=true
 ·rw[if_pos hd];rw[dropNum,if_pos hd,hd]at hg;exact hg
 ·rw[if_neg hd];have hd':dropOk view ns x=false:=by simpa using hd
  rw[dropNum,if_neg hd,dropKeys,if_neg hd,hd']at hg;exact hg
theorem jm2 (view:Int)(a:Option Addr)(cap:Nat)(ns:List Nd)(x:Int)(w:World)(hv:chainOk view ns=true)(hx:NodesAt w a ns) :
  Calls tnp 102 #[.agg #[.int .i64 view,.slice a ns.length cap],.int .i64 x] w (GaveO w (view+1) (addK view (keys ns) x)):=by
 obtain⟨hm,hs,h1,h5,hl⟩:=okS hv;refine(jcz view a cap ns x w hm hs hx).mono λe w' hg=>?_;rw[jlx hv];by_cases hd:addOk view ns x=true
 ·rw[if_pos hd];rw[addNum,if_pos hd,hd]at hg;exact hg
 ·rw[if_neg hd];have hd':addOk view ns x=false:=by simpa using hd
  rw[addNum,if_neg hd,addKeys,if_neg hd,hd']at hg;exact hg
end Go.Proofs.T
