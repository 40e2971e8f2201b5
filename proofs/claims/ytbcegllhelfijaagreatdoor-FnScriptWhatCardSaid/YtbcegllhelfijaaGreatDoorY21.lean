/-
  A part of the proof.
-/
import Derived.Lib.SmallJoins
import Derived.Test.YtbcegllhelfijaaGreatDoorY17
set_option linter.all false
set_option maxRecDepth 100000
set_option maxHeartbeats 8000000
namespace Go.Proofs.T
open Lib (hid)
open Go.RowKit
abbrev arr (s:List Int):Array Value:=(s.map (Value.int .i64)).toArray
theorem jol (s:List Int)(k:Nat)(v:Int):(arr s).setIfInBounds k (.int .i64 v)=arr (s.set k v):=by
 simp[arr,List.map_set]
theorem juf (s:List Int)(k:Nat)(h:k<s.length):(arr s)[k]?=some (.int .i64 s[k]):=by simp[arr,h]
theorem jv0 (s:List Int):∀v∈s.map (Value.int .i64),v.oneCell'=true:=by
 intro v hv;simp at hv;obtain⟨x,_,rfl⟩:=hv;rfl
theorem jjs {w0 w:World}{rs:List Res}(h:St w0 w rs) :
  Calls tnp 178 #[] w λe w'=>∃g,e=.returned (.pointer (some ⟨g,0,none⟩))/\St w0 w' (box g (arr empty5) 209::rs):=by
 have s0:=h.alloc (.cells (arr [0,0,0,0,0]) 209);go_enter Twn.func178,Tryz.ntmps178
 go_wp2_with fail
 go_loopw [2,4] (λ_ i wr=>∃(k:Nat) (s:List Int),k<=5/\i=.int .i64 k/\s.length=5/\s.take k=List.replicate k (-1)/\St w0 wr (box w.heap.size (arr s) 209::rs)) (λ_ i _=>5-(intOf i).toNat)
 case atStart=>exact⟨0,[0,0,0,0,0],Nat.zero_le _,rfl,rfl,rfl,s0⟩
 case round=>
  clear s0;obtain⟨k,s,hk,rfl,hl,ht,s1⟩:=hrel;have HT:=hid ht;have HL:=hid hl;have hl1:s.length<=5:=by omega
  have hl2:5<=s.length:=by omega
  clear ht hl;by_cases hlt:k<5
  ·have c1:=(s1.cells.1 k).trans (juf s k (by omega));have f1:=s1.cells.2 k;have i1:(0:Int)<=(k:Int):=by omega
   have i2:(k:Int)<5:=by omega
   have s2:=s1.set k (.int .i64 (-1));rw[jol]at s2;go_wp2_with fail
   go_roundw
   case rel=>exact⟨k+1,s.set k (-1),hlt,by go_num,by simp[HL.out],by rw[j3b _ _ _ (by omega),HT.out];exact List.replicate_succ'.symm,s2⟩
   case measure=>simp[intOf];omega
  ·have es:s=empty5:=by
    have:=HT.out;rw[List.take_of_length_le (by omega),show k=5 by omega]at this;exact this
   subst es;go_wp2_with fail
   go_ret
   exact⟨_,rfl,s1⟩
theorem jxe {w0 w:World}{rs:List Res}(g:Nat)(s:List Int)(k v:Int)(h:St w0 w (box g (arr s) 209::rs))(hl:s.length=5)(hk:0<=k/\k<=4) :
  Calls tnp 179 #[.pointer (some ⟨g,0,none⟩),.agg #[.int .i64 k,.int .i64 v]] w λe w'=>e=.returned (.tuple #[])/\St w0 w' (box g (arr (s.set k.toNat v)) 209::rs):=by
 obtain⟨j,rfl⟩:=Int.eq_ofNat_of_zero_le hk.1;have hj:j<s.length:=by omega
 have lg:=h.lt.2;have c1:=(h.cells.1 j).trans (juf s j hj);have f1:=h.cells.2 j;have i1:(0:Int)<=(j:Int):=by omega
 have i2:(j:Int)<5:=by omega
 have s2:=((h.set j (.int .i64 v)).alloc (.cells #[.int .i64 j,.int .i64 v] 76)).drop.drew;rw[jol]at s2;clear hl;go_enter Twn.func179,Tryz.ntmps179
 go_wp2_with fail
 go_region
 all_goals
  go_end0
  exact⟨rfl,s2⟩
theorem jq3:(tnp.info? 3).map (·.size)=some 1:=by kernel_rfl
theorem jvi {w0 w:World}{rs:List Res}(g:Nat)(s:List Int)(h:St w0 w (box g (arr s) 209::rs))(hl:s.length=5) :
  Calls tnp 180 #[.pointer (some ⟨g,0,none⟩)] w λe w'=>∃(a:Option Addr) (cap:Nat),e=.returned (.slice a s.length cap)/\St w0 w' (row (.slice a s.length cap) 3 1 s.length (s.map (Value.int .i64))::box g (arr s) 209::rs):=by
 have s1:=h.alloc (.cells #[.int .i64 0,.int .i64 0,.int .i64 0,.int .i64 0,.int .i64 0] 3);have hmk:=jql;have lg:=h.lt.2;have hsrc:CellsAt (w.alloc (.cells #[.int .i64 0,.int .i64 0,.int .i64 0,.int .i64 0,.int .i64 0] 3)) (some ⟨g,0,none⟩) (s.map (Value.int .i64)):=
  .inr ⟨g,0,rfl,λj hj=>by rw[Nat.zero_add,s1.at1.cells.1 j];simp[arr]⟩
 have HL:=hid hl;clear hl;go_enter Twn.func180,Tryz.ntmps180
 go_wp2_with (refine jc4 (by rfl) (.tmp 5) (.tmp 8) 37 37 (by rfl) 3 1 Twn.underlying37 jq3 w.heap.size 5 5 5 (some ⟨g,0,none⟩) (by rfl) (by rfl) (s.map (Value.int .i64)) _ 3 (by simp[HL.out]) hsrc s1.boxAt (by simp[HL.out]) (jv0 s) ?_)
 intro w' hh hg;have s2:=s1.boxTo hg hh;have e:(s.map (Value.int .i64)++List.drop s.length [Value.int .i64 0,.int .i64 0,.int .i64 0,.int .i64 0,.int .i64 0])=s.map (Value.int .i64):=by
  simp[HL.out]
 rw[e]at s2;have s3:=s2.madeRow 1 5 (by simp[HL.out]) (by simp[maxLen]) 5 (Nat.le_refl _);have e2:(s.map (Value.int .i64)).toArray.toList.take (5*1)=s.map (Value.int .i64):=by
  rw[List.take_of_length_le (by simp[HL.out])]
 rw[e2]at s3;have FIN:Hid (∃(a:Option Addr) (cap:Nat),Ending.returned (.slice (some ⟨w.heap.size,0,none⟩) 5 5)=.returned (.slice a s.length cap)/\St w0 w' (row (.slice a s.length cap) 3 1 s.length (s.map (Value.int .i64))::box g (arr s) 209::rs)):=
  hid ⟨some ⟨w.heap.size,0,none⟩,5,by rw[HL.out],by rw[HL.out];exact s3⟩
 clear hh hg s2 s3 e e2 s1 hsrc hmk;go_wp2_with fail
 go_ret
 exact FIN.out
theorem j8j (a:Option Addr)(cap:Nat)(us:List Upd)(many:Int)(w:World)(hm:us.length<=1099511627776)(hc:us.length<=cap)(hx:UpdsAt w a us) :
  Calls tnp 167 #[.slice a us.length cap,.int .i64 many] w (MadeInts w (stateAt us many)):=by
 have bad:∀w1,Below w.heap.size w w1->St w (w1.alloc (.cells #[] 3)) [row (.slice (some ⟨w1.heap.size,0,none⟩) 0 0) 3 1 0 []]:=λw1 hb=>
  (((St.start w).call hb).alloc (.cells #[] 3)).madeRow 1 0 rfl (by simp[maxLen]) 0 (Nat.le_refl _)
 have BAD:=hid bad;clear bad;cases hv:logOk us with
 | false=>
  have F:=hid (j9n (us:=us) (many:=many) (by rw[hv];simp));have HV:=hid hv;clear hv;go_enter Twn.func167,Tryz.ntmps167
  go_wp2_with fail
  refine(j1e _ _ _ _ hm hx).mono ?_;rw[HV.out];rintro e w1 ⟨rfl,hb⟩;go_wp2_with fail
  go_ret
  exact madeInts (ys:=[]) (BAD.out _ hb) F.out
 | true=>
  obtain⟨hl12,hall⟩:=j2p hv;have HALL:=hid hall;have HV:=hid hv;clear hv hall;by_cases h0:0<=many
  ·by_cases h1:many<=us.length
   ·obtain⟨k0,rfl⟩:=Int.eq_ofNat_of_zero_le h0;have hk0:k0<=us.length:=by omega
    have F:=hid (j7a HV.out hk0);have hkc:k0<=cap:=by omega
    have kc1:(k0:Int)<=(cap:Int):=by omega
    go_enter Twn.func167,Tryz.ntmps167
    go_wp2_with fail
    refine(j1e _ _ _ _ hm hx).mono ?_;rw[HV.out];rintro e w1 ⟨rfl,hb⟩;have s1:=(St.start w).call hb;go_wp2_with fail
    refine(jjs s1).mono ?_;rintro e w2 ⟨g,rfl,s2⟩;go_wp2_with fail
    go_loopw [7,27] (λ_ i wr=>∃k:Nat,k<=k0/\i=.int .i64 k/\St w wr [box g (arr (runTo empty5 us k)) 209]) (λ_ i _=>k0-(intOf i).toNat)
    case atStart=>exact⟨0,Nat.zero_le _,rfl,s2⟩
    case round=>
     clear s1 s2 hb;obtain⟨k,hk,rfl,s3⟩:=hrel;by_cases hlt:k<k0
     ·have hlu:k<us.length:=by omega
      obtain⟨b,off,rfl,c0,c1⟩:=(hx.below s3.below).cells k hlu;have hu:=j6b (HALL.out k hlu);have RS:=hid (jef empty5 us k hlu);have RL:=hid (j3p empty5 us k);have i1:(0:Int)<=(k:Int):=by omega
      have i2:(k:Int)<(k0:Int):=by omega
      obtain⟨u1,u2,u3,u4⟩:=hu;generalize us[k].1=p at *;generalize us[k].2=q at *;generalize runTo empty5 us k=s at *;have s4:=(s3.alloc (.cells #[.int .i64 p,.int .i64 q] 76)).at1;have PU:=hid (jxe g s p q s4 (by rw[RL.out];rfl) ⟨u1,u2⟩);go_wp2_with fail
      refine PU.out.mono ?_;rintro e w5 ⟨rfl,s5⟩;go_wp2_with fail
      go_roundw
      case rel=>exact⟨k+1,hlt,by go_num,by rw[RS.out];exact s5.under St.drop (by simp)⟩
      case measure=>simp[intOf];omega
     ·obtain rfl:k=k0:=by omega
      have RL:=hid (j3p empty5 us k);have LI:=hid (jvi g (runTo empty5 us k) s3 (by rw[RL.out];rfl));generalize runTo empty5 us k=s at *;go_wp2_with fail
      refine LI.out.mono ?_;rintro e w5 ⟨b,capb,rfl,s5⟩;go_wp2_with fail
      go_ret
      exact madeInts (s5.under St.drop (by simp)) F.out
   ·have F:=hid (j9n (us:=us) (many:=many) (by omega));have h1':(us.length:Int)<many:=by omega
    go_enter Twn.func167,Tryz.ntmps167
    go_wp2_with fail
    refine(j1e _ _ _ _ hm hx).mono ?_;rw[HV.out];rintro e w1 ⟨rfl,hb⟩;go_wp2_with fail
    go_ret
    exact madeInts (ys:=[]) (BAD.out _ hb) F.out
  ·have F:=hid (j9n (us:=us) (many:=many) (by omega));have h0':many<0:=by omega
   go_enter Twn.func167,Tryz.ntmps167
   go_wp2_with fail
   refine(j1e _ _ _ _ hm hx).mono ?_;rw[HV.out];rintro e w1 ⟨rfl,hb⟩;go_wp2_with fail
   go_ret
   exact madeInts (ys:=[]) (BAD.out _ hb) F.out
theorem jfv (a:Option Addr)(cap:Nat)(us:List Upd)(w:World)(hm:us.length<=1099511627776)(hc:us.length<=cap)(hx:UpdsAt w a us) :
  Calls tnp 140 #[.slice a us.length cap] w (MadeInts w (stateAt us us.length)):=by
 go_enter Twn.func140,Tryz.ntmps140
 go_wp2_with fail
 refine(j8j a cap us us.length w hm hc hx).mono ?_;rintro e w1 ⟨b,capb,rfl,ho,hb⟩;go_wp2_with fail
 go_ret
 exact⟨b,capb,rfl,ho,hb⟩
theorem jfe (w:World):Calls tnp 128 #[] w λe w'=>∃g cap,e=.returned (.slice (some ⟨g,0,none⟩) 5 cap)/\St w w' [row (.slice (some ⟨g,0,none⟩) 5 cap) 3 1 5 (empty5.map (Value.int .i64))]:=by
 have s0:=((St.start w).alloc (.cells #[] 3)).madeRow 1 0 rfl (by simp[maxLen]) 0 (Nat.le_refl _);go_enter Twn.func128,Tryz.ntmps128
 go_wp2_with fail
 go_loopw [1,2] (λv i wr=>∃k:Nat,k<=5/\i=.int .i64 k/\St w wr [row v 3 1 k ((List.replicate k (-1:Int)).map (Value.int .i64))]) (λ_ i _=>5-(intOf i).toNat)
 case atStart=>exact⟨0,Nat.zero_le _,rfl,s0⟩
 case round=>
  clear s0;obtain⟨k,hk,rfl,s1⟩:=hrel;by_cases hlt:k<5
  ·have o1:=s1.own;have z1:=s1.size;go_wp2_with ((at_builtin;refine j36 jf4 (by rfl) _ _ (by rfl) w.heap.size u1 k ((List.replicate k (-1:Int)).map (Value.int .i64)) (by rfl) wr.heap.size 1 1 (by rfl) #[.int .i64 (-1)] 3 (0,0) (by rfl) (by simp[Value.oneCell']) (by omega) (by omega) (by omega) (heap_alloc_new wr _) (o1.alloc _) (by simp;omega) ?_);intro gg cap3 w7 hown hgrow hat hl)
   have s2:=s1.app (World.grownBy_alloc wr _ none) hown hgrow hat hl;clear hown hgrow hat hl o1 s1;go_wp2_with fail
   go_roundw
   case rel=>exact⟨k+1,hlt,by go_num,by rw[List.replicate_succ'];simpa using s2⟩
   case measure=>simp[intOf];omega
  ·obtain rfl:k=5:=by omega
   obtain⟨g,cap,rfl,_⟩:=s1.own.form (by omega);go_wp2_with fail
   go_ret
   exact⟨g,cap,rfl,s1⟩
theorem jo0 {s:List Int}{k:Nat}{v:Int}:(s.map (Value.int .i64)).set k (.int .i64 v)=(s.set k v).map (Value.int .i64):=by rw[List.map_set]
theorem je3 (a:Option Addr)(cap:Nat)(us:List Upd)(k0:Nat)(w:World)(hm:us.length<=1099511627776)(hx:UpdsAt w a us)(hv:logOk us=true)(hk0:k0<=us.length) :
  Calls tnp 109 #[.slice a us.length cap,.int .i64 k0] w (MadeInts w (runTo empty5 us k0)):=by
 obtain⟨hl12,hall⟩:=j2p hv;have HALL:=hid hall;clear hv hall;go_enter Twn.func109,Tryz.ntmps109
 go_wp2_with fail
 refine(jfe _).mono ?_;rintro e w1 ⟨g,capg,rfl,s1⟩;go_wp2_with fail
 go_loopw [6] (λi wr=>∃k:Nat,k<=k0/\i=.int .i64 k/\St w wr [row (.slice (some ⟨g,0,none⟩) 5 capg) 3 1 5 ((runTo empty5 us k).map (Value.int .i64))]) (λi _=>k0-(intOf i).toNat)
 case atStart=>exact⟨0,Nat.zero_le _,rfl,s1⟩
 case round=>
  clear s1;obtain⟨k,hk,rfl,s3⟩:=hrel;by_cases hlt:k<k0
  ·have hlu:k<us.length:=by omega
   obtain⟨b,off,rfl,c0,c1⟩:=(hx.below s3.below).cells k hlu;obtain⟨u1,u2,u3,u4⟩:=j6b (HALL.out k hlu);have RS:=hid (jef empty5 us k hlu);have RL:=hid (j3p empty5 us k);have i1:(0:Int)<=(k:Int):=by omega
   have i2:(k:Int)<(us.length:Int):=by omega
   obtain⟨j,hj⟩:=Int.eq_ofNat_of_zero_le u1;have hj5:j<5:=by omega
   have cj:=s3.own.cellAt j (by omega);have fj:=s3.own.frozenAt j;rw[List.getElem?_eq_getElem (by rw[List.length_map,RL.out];exact hj5)]at cj;have s4:=s3.drew.rowSet j (.int .i64 us[k].2);rw[jo0]at s4;rw[hj]at c0;have RS2:Hid (runTo empty5 us (k+1)=(runTo empty5 us k).set j us[k].2):=hid (by rw[RS.out,hj];rfl);clear hj RS u1 u2;generalize us[k].2=q at *;have i3:(0:Int)<=(j:Int):=by omega
   have i4:(j:Int)<5:=by omega
   go_wp2_with fail
   go_region
   all_goals
    go_wp2_with fail
    go_roundw
    case rel=>exact⟨k+1,hlt,by go_num,by rw[RS2.out];exact s4⟩
    case measure=>simp[intOf];omega
  ·obtain rfl:k=k0:=by omega
   have RL:=hid (j3p empty5 us k);generalize runTo empty5 us k=s at *;go_wp2_with fail
   go_ret
   exact madeInts (ys:=s) (by rw[RL.out];exact s3) rfl
theorem jip (w:World)(k:Nat)(os:Array Obj):Below w.heap.size w (Sort.grow (w.drewN k) os):=
 ⟨rfl,rfl,rfl,by simp[Sort.grow],λb hb=>by simp[Sort.grow,Array.getElem?_append_left hb]⟩
def Pow10 (w:World):Prop:=Lib.TabIs tnp w "internal/strconv.uint64pow10" .u64 Lib.pow10Tab
theorem jhv:tnp.globalNamed "internal/strconv.uint64pow10"=some 4:=by kernel_rfl
theorem Pow10.below {w w':World}(h:Pow10 w)(hb:Below w.heap.size w w'):Pow10 w':=Joins.var_stays jhv h hb (Nat.le_refl _)
theorem j6g (n:Nat)(h:n<=9223372036854775807)(w:World)(ht:Pow10 w) :
  Calls tnp 104 #[.int .i64 n] w λe w'=>e=.returned (.string ⟨(Lib.decDigits n).toArray⟩)/\Below w.heap.size w w':=by
 refine(Twn.strconv_Itoa n (by omega) (by omega) w ht).mono ?_;rintro e w' ⟨rfl,k,os,rfl⟩;rw[Lib.itoa_nonneg];exact⟨rfl,jip w k os⟩
theorem jb4 (view:Int)(a:Option Addr)(cap:Nat)(ns:List Nd)(w:World)(hm:ns.length<=1099511627776)(hs:Short ns 1099511627776)(hx:NodesAt w a ns)(ht:Pow10 w) :
  Calls tnp 106 #[.agg #[.int .i64 view,.slice a ns.length cap]] w λe w'=>e=.returned (.string ⟨(chainText view ns).toArray⟩)/\Below w.heap.size w w':=by
 have s0:=(St.start w).alloc (.cells #[.int .i64 view,.slice a ns.length cap] 34);go_enter Twn.func106,Tryz.ntmps106
 go_wp2_with fail
 refine(jz view a cap ns _ hm hs (hx.below s0.below)).mono ?_;rintro e w1 ⟨rfl,hb⟩;have s1:=s0.call hb;clear s0 hb;obtain⟨c1,_⟩:=s1.cells;cases h:chainOk view ns with
 | false=>
  have FIN:Hid (chainText view ns=[]):=hid (by simp[chainText,h]);go_wp2_with fail
  exact bodyPost_ret (v:=.string ⟨#[]⟩) (by simp[results,Tryz.results106,go_sem]) rfl ⟨by rw[FIN.out],s1.below⟩
 | true=>
  have FIN:Hid (chainText view ns=linesT view ns ns.length):=hid (by simp[chainText,h]);have LL:=hid (j3x h);have HP:=hid (j1c.1 h);have hv1:=HP.out.1.1;have hv2:=HP.out.1.2;have hhl:=j62 hv2;have hn1:1<=ns.length:=HP.out.2.1.1;have hn5:ns.length<=5:=HP.out.2.1.2;obtain⟨v,rfl⟩:∃v:Nat,view=v:=⟨view.toNat,by omega⟩;have hv:v<=9223372036854775807:=by omega
  obtain⟨t1,ht1⟩:∃t,[118,105,101,119,32]++Lib.decDigits v=t:=⟨_,rfl⟩;have ht2:t1++[10]=headT v:=by rw[<- ht1];simp[headT]
  have l1:t1.length<=(headT v).length:=by rw[<- ht2];simp
  obtain⟨H,hH⟩:∃t,headT v=t:=⟨_,rfl⟩;have hh0:linesT v ns 0=H:=by rw[<- hH];rfl
  rw[hH]at ht2 l1 hhl;have cat1:=j3k (P:=tnp) ht1 (by omega);have cat2:=j3k (P:=tnp) ht2 (by omega);have s2:=s1.alloc (.cells #[.pointer none,.slice none 0 0] 43);obtain⟨c2,_⟩:=s2.drop.cells;have k0:=(c2 0).trans (show _=some (Value.int .i64 v)from rfl);have BN:=hid (Bld.new w1);have HH0:=hid hh0;have HT:=hid (ht.below s2.below);clear h c1 c2 hh0 hH ht1 ht2 hv1 hv2 l1 ht;go_wp2_with fail
  refine(j6g v hv _ HT.out).mono ?_;rintro e w2 ⟨rfl,hb2⟩;have s3:=s2.call hb2;have hD3:=Bld.below BN.out hb2;go_wp2_with fail
  refine(j1t _ _ _ H _ hD3 (by simp;omega) (by have:=s3.lt;omega)).mono ?_;rintro e w3 ⟨rfl,hD4,hb3,hk3⟩;have hB3:Below w1.heap.size w1 w3:=(((Below.refl _ _).alloc (Nat.le_refl _) _).trans (hb2.mono (by simp))).trans hb3;have BX:=hid (λW (h:Below w1.heap.size w1 W)=>s1.call h);have s4:=BX.out _ hB3;have e1:=(s4.cells.1 1).trans (show _=some (Value.slice a ns.length cap)from rfl);have HD4:=hid hD4;have HB3:=hid hB3;clear cat1 cat2 hB3 hD4 hb3 hk3 hD3 hb2 s3 s2 s1 hhl s4;go_wp2_with fail
  clear e1
  go_loopw [18] (λi wr=>∃k:Nat,k<=ns.length/\i=.int .i64 k/\Bld w1.heap.size w1.heap.size (linesT v ns k) wr/\Below w1.heap.size w1 wr) (λi _=>ns.length-(intOf i).toNat)
  case atStart=>exact⟨0,Nat.zero_le _,rfl,by rw[HH0.out];simpa using HD4.out,HB3.out⟩
  case round=>
   obtain⟨k,hk,rfl,hD,hB⟩:=hrel;have hjl:=LL.out k hk;by_cases hlt:k<ns.length
   ·obtain⟨b,off,rfl,c0,c1,c2⟩:=(hx.below (BX.out _ hB).below).cells k hlt;have hjs:=LL.out (k+1) (by omega);have SK:=(HP.out.2.2.1 k hlt).1;have HU':=hid (λW (h:Below w.heap.size w W)=>((hx.2.below h).at hlt).1);have hnx:linesT v ns (k+1)=linesT v ns k++nodeT (nd ns k):=rfl;have hmk:=hs.at hlt;have i1:(0:Int)<=(k:Int):=by omega
    have i2:(k:Int)<(ns.length:Int):=by omega
    rcases hN:nd ns k with⟨p,y,c,us,q⟩;have HU:Hid (∀W,Below w.heap.size w W->UpdsAt W y us):=hid (by have:=HU'.out;rw[hN]at this;exact this);clear HU';rw[hN]at c0 c1 c2 SK hnx hmk;dsimp only at c0 c1 c2 SK hmk;clear hN;obtain⟨p1,p2,p3⟩:=j21 SK;obtain⟨p,rfl⟩:∃n:Nat,p=n:=⟨p.toNat,by omega⟩;obtain⟨q,rfl⟩:∃n:Nat,q=n:=⟨q.toNat,by omega⟩;have hp:p<100:=by omega
    have hq:q<100:=by have:=(j2p p2).1;omega
    have hnl:=ja0 (n:=⟨p,y,c,us,q⟩) SK;simp only[nodeT,Int.toNat_natCast]at hnx hnl;obtain⟨x1,hx1⟩:∃x,Lib.decDigits p++[32]=x:=⟨_,rfl⟩;obtain⟨x2,hx2⟩:∃x,x1++logT us=x:=⟨_,rfl⟩;obtain⟨x3,hx3⟩:∃x,x2++[32]=x:=⟨_,rfl⟩;obtain⟨x4,hx4⟩:∃x,x3++Lib.decDigits q=x:=⟨_,rfl⟩;obtain⟨x5,hx5⟩:∃x,x4++[10]=x:=⟨_,rfl⟩;rw[hx1,hx2,hx3,hx4,hx5]at hnx hnl;have e5:x4.length<=x5.length:=by rw[<- hx5];simp
    have e4:x3.length<=x4.length:=by rw[<- hx4];simp
    have e3:x2.length<=x3.length:=by rw[<- hx3];simp
    have e2:x1.length<=x2.length:=by rw[<- hx2];simp
    have cat1:=j3k (P:=tnp) hx1 (by omega);have cat2:=j3k (P:=tnp) hx2 (by omega);have cat3:=j3k (P:=tnp) hx3 (by omega);have cat4:=j3k (P:=tnp) hx4 (by omega);have cat5:=j3k (P:=tnp) hx5 (by omega);have LG:=hid (λW (h:UpdsAt W y us)=>jfk y c us W hmk h);rw[show logText us=logT us by simp[logText,p2]]at LG;have hD2:=hD.alloc (.cells #[.int .i64 p,.slice y us.length c,.int .i64 q] 60);have hB2:=hB.alloc hB.size (.cells #[.int .i64 p,.slice y us.length c,.int .i64 q] 60);have hU2:=heap_alloc_new wr (.cells #[.int .i64 p,.slice y us.length c,.int .i64 q] 60);have HD2:=hid hD2;have HB2:=hid hB2;have d0:=(cell_of_heap (o:=0) hU2).trans (show _=some (Value.int .i64 p)from rfl);have d1:=(cell_of_heap (o:=1) hU2).trans (show _=some (Value.slice y us.length c)from rfl);have d2:=(cell_of_heap (o:=2) hU2).trans (show _=some (Value.int .i64 q)from rfl);have HN:=hid hnx;clear hnx hx1 hx2 hx3 hx4 hx5 e2 e3 e4 e5 hjs p1 p2 p3 SK hD2 hB2 hU2 hD hB;go_wp2_with fail
    clear c0 c1 c2;generalize wr.alloc (.cells #[.int .i64 p,.slice y us.length c,.int .i64 q] 60 (0,0))=wq at *;generalize wr.heap.size=V at *;have g0:=jf d0;have g1:=jf d1;have g2:=jf d2;have HG:=hid (λx:Grown wq=>HB2.out.trans ((j1b x).mono HB2.out.size));have HD3:=hid (λx:Grown wq=>Bld.below HD2.out (j1b x));have L4:=hid (λx:Grown wq=>LG.out (grow wq x) (HU.out _ (BX.out _ (HG.out x)).below));refine Mix.run_last_grow [0,1,2,3,4,5,6,7,8,9,10,11,12,13] 14 rfl (by kernel_rfl) (by kernel_rfl) rfl rfl rfl ?_;simp only[Mix.pickOps,List.filterMap_cons,List.filterMap_nil,List.getElem?_toArray,List.getElem?_cons_zero,List.getElem?_cons_succ];repeat (refine Mix.cons_form ?_;go_big_quiet_step (((first|(go_at_call 127;exact Calls.grow_of (L4.out _))|(go_at_call 104;exact Calls.grow_same ((Twn.strconv_Itoa_small _ (by assumption) _).mono λ_ _ h=>⟨h.1,h.2.symm⟩))))))
    refine wpQuiet_nil ?_;intro x;go_simp;refine(j1t _ _ _ x5 _ (HD3.out x) (by omega) (HG.out x).size).mono ?_;rintro e w5 ⟨rfl,hD5,hb5,hk5⟩;have F5:=hid ((HG.out x).trans hb5);clear hb5 hk5;go_simp;go_wp2_with fail
    go_roundw
    case rel=>exact⟨k+1,hlt,by go_num,by rw[HN.out];exact hD5,F5.out⟩
    case measure=>simp[intOf];omega
   ·obtain rfl:k=ns.length:=by omega
    go_wp2_with fail
    refine(Twn.Builder_String_any_k w1.heap.size w1.heap.size (linesT v ns ns.length) _ hD hB.size).mono ?_;rintro e w2 ⟨rfl,_,hb2,_⟩;go_wp2_with fail
    exact bodyPost_ret (v:=.string ⟨(linesT v ns ns.length).toArray⟩) (by simp[results,Tryz.results106,go_sem]) rfl ⟨by rw[FIN.out],(BX.out _ (hB.trans hb2)).below⟩
theorem jgm {S:ByteArray}{k a:Nat}(h:k<S.size)(hd:digsOf a (S.data.toList.drop k)=digsOf 0 S.data.toList) :
  digsOf 0 S.data.toList=if 48<=S[k].toNat/\S[k].toNat<=57 then digsOf (10*a+(S[k].toNat-48)) (S.data.toList.drop (k+1))else none:=by
 rw[<- hd,List.drop_eq_getElem_cons (by simpa using h)];rfl
theorem jc1 (S:ByteArray)(w:World)(hS:S.size<=140737488355328) :
  Calls tnp 43 #[.string S] w λe w'=>e=.returned (.int .i64 (numL S.data.toList))/\w=w':=by
 have hlen:S.data.toList.length=S.size:=by simp
 by_cases h:1<=S.size/\S.size<=2
 ·have FN:Hid (numL S.data.toList=orMinus (digsOf 0 S.data.toList)):=hid (by rw[numL,if_pos (by omega)]);have HX:Hid ((1:Int)<=(S.size:Int)/\(S.size:Int)<=2):=hid (by omega);have h2:=h.2;clear h hlen;go_enter Twn.func43,Tryz.ntmps43
  go_wp2_with fail
  refine(j2f _ _ _ _ HX.out).mono ?_;rintro e w' ⟨rfl,rfl⟩;go_wp2_with fail
  go_loop [3,4] (λn i=>∃k a:Nat,k<=S.size/\i=.int .i64 k/\n=.int .i64 a/\(k=0/\a=0\/k=1/\a<=9\/k=2/\a<=99)/\digsOf a (S.data.toList.drop k)=digsOf 0 S.data.toList) (λ_ i=>S.size-(intOf i).toNat)
  case atStart=>exact⟨0,0,Nat.zero_le _,rfl,rfl,.inl ⟨rfl,rfl⟩,rfl⟩
  case round=>
   obtain⟨k,a,hk,rfl,rfl,hb,hd⟩:=hrel;by_cases hlt:k<S.size
   ·have DS:=hid (jgm hlt hd);obtain⟨c,hc⟩:∃c:Nat,S[k].toNat=c:=⟨_,rfl⟩;have i1:(k:Int)<(S.size:Int):=by omega
    have hcl:c<256:=by rw[<- hc];exact UInt8.toNat_lt _
    by_cases g1:c<48
    ·have F:Hid (numL S.data.toList=-1):=hid (by rw[FN.out,DS.out,hc,if_neg (by omega)];rfl);have t1:decide ((c:Int)<48)=true:=by simp;omega
     clear hb hd g1;go_wp2_with fail
     go_ret
     exact⟨by rw[F.out];rfl,rfl⟩
    ·by_cases g2:57<c
     ·have F:Hid (numL S.data.toList=-1):=hid (by rw[FN.out,DS.out,hc,if_neg (by omega)];rfl);have t1:decide ((c:Int)<48)=false:=by simp;omega
      have t2:decide ((57:Int)<(c:Int))=true:=by simp;omega
      clear hb hd g1 g2;go_wp2_with fail
      go_ret
      exact⟨by rw[F.out];rfl,rfl⟩
     ·have t1:decide ((c:Int)<48)=false:=by simp;omega
      have t2:decide ((57:Int)<(c:Int))=false:=by simp;omega
      have g3:(48:Int)<=(c:Int):=by omega
      have g4:(c:Int)<=57:=by omega
      have ab:(a:Int)<=99:=by omega
      have D2:Hid (digsOf (10*a+(c-48)) (S.data.toList.drop (k+1))=digsOf 0 S.data.toList):=hid (by rw[DS.out,hc,if_pos (by omega)]);have B2:Hid (k+1=0/\10*a+(c-48)=0\/k+1=1/\10*a+(c-48)<=9\/k+1=2/\10*a+(c-48)<=99):=hid (by omega);clear hb hd g1 g2;go_wp2_with fail
      go_round
      case rel=>exact⟨k+1,10*a+(c-48),hlt,by go_num,by go_num,B2.out,D2.out⟩
      case measure=>simp[intOf];omega
   ·have ek:S.data.toList.drop k=[]:=List.drop_of_length_le (by simp;omega);rw[ek]at hd;have F:Hid (numL S.data.toList=(a:Int)):=hid (by rw[FN.out,<- hd];rfl);clear hd hb ek;go_wp2_with fail
    go_ret
    exact⟨by rw[F.out];rfl,rfl⟩
 ·have HX:Hid (¬((1:Int)<=(S.size:Int)/\(S.size:Int)<=2)):=hid (by omega);have F:Hid (numL S.data.toList=-1):=hid (by rw[numL,if_neg (by omega)]);clear h hlen;go_enter Twn.func43,Tryz.ntmps43
  go_wp2_with fail
  refine(j63 _ _ _ _ HX.out).mono ?_;rintro e w' ⟨rfl,rfl⟩;go_wp2_with fail
  go_ret
  exact⟨by rw[F.out];rfl,rfl⟩
theorem jl3:Elem tnp 44 9 1 16:=by
 obtain⟨i,h1,h2,h3,h4⟩:=info_parts (show(tnp.info? 9).map (λi=>(i.zero,i.size,i.bytes))=some (some (.string ⟨#[]⟩),1,16) by kernel_rfl);exact⟨Twn.underlying44,i,_,h1,h2,h3,h4,rfl,by decide⟩
def StrsAt (w:World)(a:Option Addr)(ps:List ByteArray):Prop:=CellsAt w a (ps.map Value.string)
theorem StrsAt.cells {w:World}{a:Option Addr}{ps:List ByteArray}(h:StrsAt w a ps)(j:Nat)(hj:j<ps.length):∃b off,a=some ⟨b,off,none⟩/\w.cell? ⟨b,off+j,none⟩=some (.string ps[j]):=by
 rcases h with h|⟨b,off,rfl,hc⟩
 ·have:ps.length=0:=by have:=congrArg List.length h;simpa using this
  omega
 ·refine⟨b,off,rfl,?_⟩;rw[hc j (by simpa using hj),List.getElem?_map,List.getElem?_eq_getElem hj];rfl
theorem ji7 (ps:List ByteArray)(p:ByteArray):(ps++[p]).map Value.string=ps.map Value.string++[.string p]:=by simp
theorem j6z (S:ByteArray)(f k:Nat):(S.extract f k).data.toList=(S.data.toList.take k).drop f:=by
 rw[Lib.extract_data,List.drop_take]
end Go.Proofs.T
