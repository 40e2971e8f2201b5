/-
  A part of the proof.
-/
import Derived.Test.YtbcegllhelfijaaGreatDoorY24
set_option linter.all false
set_option maxRecDepth 100000
set_option maxHeartbeats 8000000
namespace Go.Proofs.T
open Lib (hid)
open Go.RowKit
theorem jeg (b:UInt8):∀(n:Nat)(s:List UInt8),s.length<=n->Lib.splitK [b] 0 (Lib.count s [b]) s=cutB b s
 | n,s,hn=>by
  rcases Lib.indexByte_ge s b |> λh=>(show Lib.indexByte s b=-1\/∃i:Nat,Lib.indexByte s b=i from by
    by_cases e:Lib.indexByte s b=-1
    ·exact .inl e
    ·exact .inr ⟨(Lib.indexByte s b).toNat,by omega⟩)with h|⟨i,h⟩
  ·have h1:Lib.index s [b]=-1:=by rw[Lib.index_one];exact h
   rw[Lib.count_miss h1,Lib.splitK,j4x];intro c hc e;obtain⟨k,hk,rfl⟩:=List.getElem_of_mem hc;exact Lib.indexByte_none h k (by rw[List.getElem?_eq_getElem hk,e])
  ·have h1:Lib.index s [b]=i:=by rw[Lib.index_one];exact h
   obtain⟨h2,h3⟩:=Lib.indexByte_some h;have hil:i<s.length:=by
    rcases Nat.lt_or_ge i s.length with h'|h'
    ·exact h'
    ·rw[List.getElem?_eq_none h']at h2;cases h2
   have hs:s=s.take i++b::s.drop (i+1):=by
    rw[List.getElem?_eq_getElem hil]at h2;have e:s.drop i=b::s.drop (i+1):=by
     rw[List.drop_eq_getElem_cons hil,Option.some.inj h2]
    rw[<- e,List.take_append_drop]
   have hno:∀c∈s.take i,c≠b:=by
    intro c hc e;obtain⟨k,hk,rfl⟩:=List.mem_take_iff_getElem.1 hc;refine h3 k (by omega) ?_;rw[List.getElem?_eq_getElem (by omega),e]
   have hm:¬(Lib.index s [b]==-1)=true:=λe=>by have:=beq_iff_eq.1 e;omega
   match n,hn with
   | 0,hn=>omega
   | n+1,hn=>
    have ih:=jeg b n (s.drop (i+1)) (by simp;omega);rw[Lib.count_hit (by simp) h1,Nat.add_comm,Lib.splitK,if_neg hm,h1];simp only[Int.toNat_natCast,Nat.add_zero,List.length_singleton];rw[ih]
    conv=>rhs;rw[hs,j7q hno]
theorem jp3 {L:List UInt8}{f k:Nat}{c:UInt8}(hfk:f<=k)(hk:k<L.length)(hc:L[k]=c)(hno:∀c∈(L.take k).drop f,c≠32) :
  if c=32 then cutB 32 (L.drop f)=(L.take k).drop f::cutB 32 (L.drop (k+1))else∀c∈(L.take (k+1)).drop f,c≠32:=by
 split
 ·rename_i h
  have e:L.drop f=(L.take k).drop f++32::L.drop (k+1):=by
   rw[<- h,<- hc,<- List.drop_eq_getElem_cons hk]
   conv=>lhs;rw[<- List.take_append_drop k L]
   rw[List.drop_append,List.length_take,show f-min k L.length=0 by omega];rfl
  rw[e,j7q hno]
 ·rename_i h
  rw[List.take_succ_eq_append_getElem hk,hc,List.drop_append];intro x hx;rcases List.mem_append.1 hx with hx|hx
  ·exact hno x hx
  ·have:=List.mem_of_mem_drop hx;rw[List.mem_singleton]at this;rw[this];exact h
theorem jp2 {L:List UInt8}{f:Nat}(hno:∀c∈(L.take L.length).drop f,c≠32):cutB 32 (L.drop f)=[L.drop f]:=by
 rw[List.take_length]at hno;exact j4x hno
theorem jbn:∀{s p:List UInt8},p∈cutB 32 s->p.length<=s.length
 | [],p,h=>by simp[cutB]at h;simp[h]
 | c::r,p,h=>by
  unfold cutB at h;split at h
  ·rcases List.mem_cons.1 h with rfl|h
   ·simp
   ·have:=jbn h;simp;omega
  ·rcases List.mem_cons.1 h with rfl|h
   ·have:(cutB 32 r).headD []∈cutB 32 r:=by
     have:=j4o 32 r;cases hc:cutB 32 r with
     | nil=>exact absurd hc this
     | cons a b=>simp
    have:=jbn this;exact Nat.succ_le_succ this
   ·have:=jbn (List.mem_of_mem_tail h);simp;omega
theorem jeb {ps:List ByteArray}{S:ByteArray}(h:cutB 32 S.data.toList=ps.map (·.data.toList)):∀p∈ps,p.size<=S.size:=by
 intro p hp;have h1:=jbn (s:=S.data.toList) (p:=p.data.toList) (by rw[h];exact List.mem_map_of_mem hp);simpa using h1
def WasCutB (S:ByteArray)(w:World)(e:Ending)(w':World):Prop:=
 ∃(v:Value) (ps:List ByteArray),e=.returned v/\ps.map (·.data.toList)=cutB 32 S.data.toList/\ps.length<=S.size+1/\(∀p∈ps,p.size<=S.size)/\St w w' [row v 9 1 ps.length (ps.map Value.string)]
theorem jff (S:ByteArray)(w:World)(hS:S.size<=2097152) :
  Calls tnp 39 #[.string S,.int .u8 32] w (WasCutB S w):=by
 have s0:=((St.start w).alloc (.cells #[] 9)).madeRow 1 0 rfl (by simp[maxLen]) 0 (Nat.le_refl _);simp only[List.take_nil]at s0;go_enter Twn.func39,Tryz.ntmps39
 go_wp2_with fail
 go_loopw [5,6,7] (λv f i wr=>∃(k fr:Nat) (ps:List ByteArray),k<=S.size/\i=.int .i64 k/\f=.int .i64 fr/\fr<=k/\ps.length<=k/\cutB 32 S.data.toList=ps.map (·.data.toList)++cutB 32 (S.data.toList.drop fr)/\(∀c∈(S.data.toList.take k).drop fr,c≠32)/\St w wr [row v 9 1 ps.length (ps.map Value.string)]) (λ_ _ i _=>S.size-(intOf i).toNat)
 case atStart=>exact⟨0,0,[],Nat.zero_le _,rfl,rfl,Nat.le_refl _,Nat.le_refl _,rfl,by simp,s0⟩
 case round=>
  clear s0;obtain⟨k,f,ps,hk,rfl,rfl,hfk,hpl,hcut,hno,s1⟩:=hrel;by_cases hlt:k<S.size
  ·obtain⟨c8,hc8⟩:∃c,S[k]=c:=⟨_,rfl⟩;have CS:=hid (jp3 hfk (by simpa using hlt) hc8 hno);have HC:=hid hcut;obtain⟨c,hc⟩:∃c:Nat,S[k].toNat=c:=⟨_,rfl⟩;have HC8:=hid hc8;have HCN:=hid hc;have i1:(k:Int)<(S.size:Int):=by omega
   clear hcut hno hc8;by_cases g1:c=32
   ·have h44:c8=32:=by
     rw[<- HC8.out];exact UInt8.toNat_inj.1 (by rw[HCN.out,g1];rfl)
    have F:=hid (by have:=CS.out;rw[if_pos h44]at this;exact this);subst g1;have i2:(f:Int)<=(k:Int):=by omega
    have o1:=s1.own;have lR:=s1.size;clear CS h44;go_wp2_with ((at_builtin;refine j36 jl3 (by rfl) _ _ (by rfl) w.heap.size u5 ps.length (ps.map Value.string) (by rfl) wr.heap.size 1 1 (by rfl) #[.string (S.extract f k)] 9 (0,0) (by rfl) (by simp[Value.oneCell']) (by omega) (by omega) (by omega) (heap_alloc_new wr _) (o1.alloc _) (by simp;omega) ?_);intro gg cap3 w7 hown hgrow hat hl)
    have s7:=s1.app (World.grownBy_alloc wr _ none) hown hgrow hat hl;clear hown hgrow hat hl o1 s1;go_wp2_with fail
    go_roundw
    case rel=>exact⟨k+1,k+1,ps++[S.extract f k],hlt,by go_num,by go_num,by omega,by simp;omega,by rw[HC.out,F.out,List.map_append,List.append_assoc,List.map_singleton,j6z];rfl,λc hc=>(by rw[List.drop_of_length_le (by simp;omega)]at hc;cases hc),by rw[ji7];simpa using s7⟩
    case measure=>simp[intOf];omega
   ·have h44:c8≠32:=λe=>g1 (by rw[<- HCN.out,HC8.out,e];rfl);have F:=hid (by have:=CS.out;rw[if_neg h44]at this;exact this);have t1:((c:Int)==32)=false:=by simp;omega
    clear g1 CS h44;go_wp2_with fail
    go_roundw
    case rel=>exact⟨k+1,f,ps,hlt,by go_num,rfl,by omega,by omega,HC.out,F.out,s1⟩
    case measure=>simp[intOf];omega
  ·obtain rfl:k=S.size:=by omega
   have F:Hid (cutB 32 (S.data.toList.drop f)=[(S.extract f S.size).data.toList]):=hid (by rw[jp2 (by simpa using hno),Lib.extract_to_end]);have HC:=hid hcut;have i2:(f:Int)<=(S.size:Int):=by omega
   have o1:=s1.own;have lR:=s1.size;clear hcut hno;go_wp2_with ((at_builtin;refine j36 jl3 (by rfl) _ _ (by rfl) w.heap.size u5 ps.length (ps.map Value.string) (by rfl) wr.heap.size 1 1 (by rfl) #[.string (S.extract f S.size)] 9 (0,0) (by rfl) (by simp[Value.oneCell']) (by omega) (by omega) (by omega) (heap_alloc_new wr _) (o1.alloc _) (by simp;omega) ?_);intro gg cap3 w7 hown hgrow hat hl)
   have s7:=s1.app (World.grownBy_alloc wr _ none) hown hgrow hat hl;have PS:=hid (And.intro (jeb (ps:=ps++[S.extract f S.size]) (S:=S) (by rw[HC.out,F.out,List.map_append,List.map_singleton])) s7);clear hown hgrow hat hl o1 s1 s7;go_wp2_with fail
   go_ret
   exact⟨.slice (some ⟨gg,0,none⟩) (ps.length+1) cap3,ps++[S.extract f S.size],rfl,by rw[HC.out,F.out,List.map_append,List.map_singleton],by simp;omega,PS.out.1,by rw[ji7];simpa using PS.out.2⟩
def MaxCell (w:World):Prop:=∃m,w.cell? ⟨0,0,none⟩=some (.int .i64 m)
theorem MaxCell.below {w w':World}(h:MaxCell w)(hb:Below w.heap.size w w'):MaxCell w':=by
 obtain⟨m,hm⟩:=h;exact⟨m,by rw[hb.cell (p:=⟨0,0,none⟩) (jo hm)];exact hm⟩
def WasSplit (b:UInt8)(S:ByteArray)(w:World)(e:Ending)(w':World):Prop:=
 ∃(g:Nat) (ps:List ByteArray),e=.returned (.slice (some ⟨g,0,none⟩) ps.length ps.length)/\ps.map (·.data.toList)=cutB b S.data.toList/\ps.length<=S.size+1/\St w w' [row (.slice (some ⟨g,0,none⟩) ps.length ps.length) 9 1 ps.length (ps.map Value.string)]
theorem ja3 (b:UInt8)(S:ByteArray)(w:World)(hS:S.size<=2097152)(hM:MaxCell w) :
  Calls tnp 22 #[.string S,.string ⟨#[b]⟩] w (WasSplit b S w):=by
 obtain⟨m,hm⟩:=hM;refine(Twn.strings_Split S ⟨#[b]⟩ m w (by omega) hm (by simp[ByteArray.size])).mono ?_;rintro e w' ⟨rfl,rfl⟩;obtain⟨ps,hps⟩:∃ps,Lib.splitB ⟨#[b]⟩ 0 (Lib.countB S ⟨#[b]⟩) S=ps:=⟨_,rfl⟩;have hl:ps.length=Lib.countB S ⟨#[b]⟩+1:=by rw[<- hps];exact Lib.splitB_all ⟨#[b]⟩ (by simp[ByteArray.size]) 0 _ S rfl
 have hc:Lib.countB S ⟨#[b]⟩<=S.size:=Lib.countB_le ⟨#[b]⟩ (by simp[ByteArray.size]) S.size S (Nat.le_refl _);have hcut:ps.map (·.data.toList)=cutB b S.data.toList:=by
  rw[<- hps,Lib.splitB_data];exact jeg b _ _ (Nat.le_refl _)
 have s1:=((St.start w).alloc (.cells (ps.map Value.string).toArray 9)).madeRow 1 ps.length (by simp) (by unfold maxLen;omega) ps.length (Nat.le_refl _);rw[hps,<- hl];refine⟨_,ps,rfl,hcut,by omega,?_⟩;rw[show(ps.map Value.string).toArray.toList.take (ps.length*1)=ps.map Value.string by rw[Nat.mul_one,List.take_of_length_le (by simp)]]at s1;exact s1
structure Env (w:World)(p:Addr):Prop where
 pow:Pow10 w
 err:ErrTake w p
 max:MaxCell w
theorem Env.below {w w':World}{p:Addr}(h:Env w p)(hb:Below w.heap.size w w'):Env w' p:=⟨h.pow.below hb,h.err.below hb,h.max.below hb⟩
theorem MachAt.more {w0 w:World}{M:Nat}{m:Mach}{rs:List Res}(h:MachAt w0 w M m rs):∃L,St w0 w L/\∀w' A,St w0 w' (A++L)->MachAt w0 w' M m (A++rs):=by
 obtain⟨a,cap,ms,hk,s⟩:=h;refine⟨_,s,λw' A s'=>⟨a,cap,ms,hk,?_⟩⟩;refine s'.perm ?_;refine(List.perm_middle (l₁:=A)).trans (List.Perm.cons _ ((List.perm_middle (l₁:=A)).trans (List.Perm.cons _ ?_)));rw[<- List.append_assoc,<- List.append_assoc];exact List.Perm.append_right rs List.perm_append_comm
theorem MachAt.use {w0 w:World}{M:Nat}{m:Mach}{r:Res}{rs:List Res}(h:MachAt w0 w M m (r::rs)):∃L,St w0 w (r::L)/\∀w' r',St w0 w' (r'::L)->MachAt w0 w' M m (r'::rs):=by
 obtain⟨a,cap,ms,hk,s⟩:=h;refine⟨box M #[.int .i64 m.1,.slice a ms.length cap] 40::row (.slice a ms.length cap) 60 3 ms.length (ncells ms)::(nds ms++rs),?_,λw' r' s'=>⟨a,cap,ms,hk,?_⟩⟩
 ·exact s.perm (List.perm_middle (l₁:=box M #[.int .i64 m.1,.slice a ms.length cap] 40::row (.slice a ms.length cap) 60 3 ms.length (ncells ms)::nds ms))
 ·exact s'.perm (List.perm_middle (l₁:=box M #[.int .i64 m.1,.slice a ms.length cap] 40::row (.slice a ms.length cap) 60 3 ms.length (ncells ms)::nds ms)).symm
theorem MachAt.less {w0 w:World}{M:Nat}{m:Mach}{A rs:List Res}(h:MachAt w0 w M m (A++rs)):MachAt w0 w M m rs:=by
 obtain⟨a,cap,ms,hk,s⟩:=h;exact⟨a,cap,ms,hk,St.skip (A:=box M #[.int .i64 m.1,.slice a ms.length cap] 40::row (.slice a ms.length cap) 60 3 ms.length (ncells ms)::nds ms) s⟩
theorem MachAt.below {w0 w:World}{M:Nat}{m:Mach}{rs:List Res}(h:MachAt w0 w M m rs):Below w0.heap.size w0 w:=by
 obtain⟨a,cap,ms,hk,s⟩:=h;exact s.below
theorem jhu {v:Int}{ks:List Key}(hv:VP v ks){x:Int}(hx:x<0):¬0<=place (ks.map (·.1)) x:=by
 intro h;obtain⟨i,hi,e,_⟩:=j6j h;rw[List.length_map]at hi;have h1:=(j1o.1 (hv.2.2.1 i hi).1).1.1;rw[List.getElem_map]at e;have h2:kid ks i=x:=by unfold kid;rw[jxa hi];exact e
 omega
theorem jv9 {m:Mach}{c:Nat}{xs:List Int}(hv:VP m.1 m.2)(hc:c<8)(hl:xs.length=cmdN c)(hx:∃j,j<xs.length/\xs.getD j 0<0):doK m c xs=(m,NO):=by
 obtain⟨j,hj,hneg⟩:=hx;have none0:cmdN c≠0:=λh=>by omega
 have two:cmdN c=2->xs.getD 0 0<0\/xs.getD 1 0<0:=λh=>by
  rcases(by omega:j=0\/j=1)with rfl|rfl
  ·exact .inl hneg
  ·exact .inr hneg
 have one:cmdN c=1->xs.getD 0 0<0:=λh=>by
  obtain rfl:j=0:=by omega
  exact hneg
 rcases(by omega:c=0\/c=1\/c=2\/c=3\/c=4\/c=5\/c=6\/c=7)with rfl|rfl|rfl|rfl|rfl|rfl|rfl|rfl
 ·have h:=two rfl;show doneK m m.1 (writeK m.2 (xs.getD 0 0,xs.getD 1 0))=_;generalize xs.getD 0 0=y0 at *;generalize xs.getD 1 0=y1 at *;unfold writeK;rw[if_neg]
  ·rfl
  ·intro hh;have h2:=hh.1;simp[updOk]at h2;omega
 ·have h:=one rfl;show doneK m m.1 (passK m.2 (xs.getD 0 0))=_;unfold passK;rw[if_neg (by omega)];rfl
 ·have h:=one rfl;show doneK m m.1 (tellK m.2 (xs.getD 0 0))=_;unfold tellK;rw[if_neg (by omega)];rfl
 ·have h:=one rfl;show doneK m (m.1+1) (dropK m.1 m.2 (xs.getD 0 0))=_;unfold dropK;rw[if_neg (jhu hv h)];rfl
 ·have h:=one rfl;show doneK m (m.1+1) (addK m.1 m.2 (xs.getD 0 0))=_;generalize xs.getD 0 0=y0 at *;unfold addK guardK;rw[if_neg]
  ·rfl
  ·intro hh;have h2:=(j1p.1 hh).2.2.1 m.2.length (by simp);have h3:=(j1o.1 h2.1).1.1;simp[kid,kat]at h3;omega
 ·exact absurd rfl none0
 ·have h:=two rfl;show(m,readT (readAtK m.2 (xs.getD 0 0) (xs.getD 1 0)))=_;unfold readAtK;rw[if_neg]
  ·rfl
  ·intro hh;rcases h with h|h
   ·exact jhu hv h hh.2
   ·omega
 ·exact absurd rfl none0
theorem jnr (l:List UInt8):numL l=-1\/0<=numL l:=by
 unfold numL;split
 ·cases digsOf 0 l with
  | none=>exact .inl rfl
  | some n=>exact .inr (by simp[orMinus])
 ·exact .inl rfl
theorem je0 {w:List UInt8}{n:Nat}:∀(r k c:Nat),findC w n k r=some c->cmdW c=w/\cmdN c=n/\c<k+r
 | 0,_,_,h=>by cases h
 | r+1,k,c,h=>by
  unfold findC at h;split at h
  ·rename_i hc;cases h;exact⟨hc.1,hc.2,by omega⟩
  ·obtain⟨h1,h2,h3⟩:=je0 r (k+1) c h;exact⟨h1,h2,by omega⟩
theorem jj2:∀(c:Nat),c<8->∀(x y:Value)(w:World),(callFunc (cmdF c) #[x,y]).run tnp w=.ok (.enter (cmdF c) #[x,y]) w
 | 0,_=>λ_ _ _=>by kernel_rfl
 | 1,_=>λ_ _ _=>by kernel_rfl
 | 2,_=>λ_ _ _=>by kernel_rfl
 | 3,_=>λ_ _ _=>by kernel_rfl
 | 4,_=>λ_ _ _=>by kernel_rfl
 | 5,_=>λ_ _ _=>by kernel_rfl
 | 6,_=>λ_ _ _=>by kernel_rfl
 | 7,_=>λ_ _ _=>by kernel_rfl
 | k+8,h=>by omega
theorem jmi (c:Nat)(hc:c<8)(M:Nat)(m:Mach)(a:Option Addr)(cap:Nat)(xs:List Int)(rs:List Res)(p:Addr)(w0 w:World)(hE:Env w0 p)(hM:MachAt w0 w M m rs)(hv:VP m.1 m.2)(hx:IntsAt w a xs)(hn:xs.length=cmdN c) :
  Calls tnp (cmdF c) #[.pointer (some ⟨M,0,none⟩),.slice a xs.length cap] w λe w'=>e=.returned (.string ⟨(doK m c xs).2.toArray⟩)/\MachAt w0 w' M (doK m c xs).1 rs:=by
 have hEw:=hE.below hM.below;rcases(by omega:c=0\/c=1\/c=2\/c=3\/c=4\/c=5\/c=6\/c=7)with rfl|rfl|rfl|rfl|rfl|rfl|rfl|rfl
 ·exact jfm M m a cap xs rs w0 w p hEw.err hM hv hx hn
 ·exact jha M m a cap xs rs w0 w hM hv hx hn
 ·exact jhd M m a cap xs rs w0 w hM hv hx hn
 ·exact jh9 M m a cap xs rs w0 w hM hv hx hn
 ·exact jjo M m a cap xs rs w0 w hM hv hx hn
 ·exact jde M m a cap xs rs w0 w hM hv hE.pow
 ·exact jhb M m a cap xs rs w0 w hM hv hE.pow hx hn
 ·exact jhc M m a cap xs rs w0 w hM hv hE.pow
theorem jra (M:Nat)(m:Mach)(S:ByteArray)(rs:List Res)(p:Addr)(w0 w:World)(hS:S.size<=400)(hM:MachAt w0 w M m rs)(hv:VP m.1 m.2)(hE:Env w0 p) :
  Calls tnp 24 #[.pointer (some ⟨M,0,none⟩),.string S] w λe w'=>e=.returned (strB (lineK m S.data.toList).2)/\MachAt w0 w' M (lineK m S.data.toList).1 rs:=by
 obtain⟨L,s0,HB⟩:=hM.more;have HBH:=hid HB;have EE:=hid (λW (h:Below w0.heap.size w0 W)=>hE.below h);have EH:=hid hE;have s1:=s0.alloc (.cells #[.string ⟨#[]⟩] 9);have hmf:∀(fn:Fn) (first cap:Array Value) (w:World),(Instr.makeFunc fn first cap).run tnp w=.ok (.func fn first cap) w:=λ_ _ _ _=>rfl;clear hM HB hE s0
 go_enter_defers Twn.func24,Tryz.ntmps24
 go_wp2_with fail
 refine(ja3 32 S _ (by omega) (EE.out _ s1.below).max).mono ?_;rintro e w1 ⟨g,ps,rfl,hps,hpl,ss⟩;have s2:=s1.join ss;simp only[List.cons_append,List.nil_append]at s2;generalize hB:w.heap.size=B at *;clear ss s1 hB;obtain⟨p0,pr,rfl⟩:∃p0 pr,ps=p0::pr:=by
  cases ps with
  | nil=>exact absurd hps.symm (j4o 32 _)
  | cons p0 pr=>exact⟨p0,pr,rfl⟩
 simp only[List.length_cons,List.map_cons]at *;have LK:Hid (lineK m S.data.toList=lineW m (p0.data.toList::pr.map (·.data.toList))):=hid (by unfold lineK;rw[<- hps]);have CO:Hid (cmdOf (p0.data.toList::pr.map (·.data.toList))=findC p0.data.toList pr.length 0 8):=hid (by unfold cmdOf;simp);have e0:strB p0.data.toList=.string p0:=by unfold strB;simp
 have CC:=jbj (some ⟨g,0,none⟩) (pr.length+1) p0.data.toList pr.length w1 (by omega) (.inr ⟨g,0,rfl,λj hj=>by
  obtain rfl:j=0:=by simpa using hj
  have:=s2.own.cellAt 0 (by simp);rw[this,e0];rfl⟩)
 have HV:=hid hv;have PS:Hid (∀q∈pr,q.size<=400):=hid λq hq=>Nat.le_trans (jeb (ps:=p0::pr) (S:=S) (by rw[List.map_cons];exact hps.symm) q (by simp[hq])) hS;have hpl4:pr.length<=400:=by omega
 clear hps hv hS;go_wp2_with fail
 refine CC.mono ?_;rintro e w2 ⟨hC,hb2⟩;have s3:=s2.call hb2;clear CC s2 hb2;unfold CmdEnds at hC;cases hc:findC p0.data.toList pr.length 0 8 with
 | none=>
  rw[hc]at hC;have LK2:Hid (lineK m S.data.toList=(m,WHAT)):=hid (by rw[LK.out];unfold lineW;rw[CO.out,hc]);subst hC;have CB:=jg7 B _ WHAT [] _ w0 w2 s3.at1;clear s3 hc;go_wp2_with fail
  refine leaves_cons (f:=35) (args:=#[.pointer (some ⟨B,0,none⟩)]) (by simp) (by simp[go_sem]) ?_;refine CB.mono ?_;rintro e u' w3 ⟨rfl,rfl,s4⟩;have q4:=s4.cells.1;have FIN:=hid (MachAt.less (A:=_::[_]) (HBH.out w3 [_,_] s4));unfold strB at q4 FIN;clear CB;simp[Leaves,settle,results,Tryz.results24,go_sem,q4];exact⟨by rw[LK2.out];rfl,by rw[LK2.out];exact FIN.out⟩
 | some c=>
  rw[hc]at hC;unfold strB at hC;subst hC;obtain⟨hcw,hcn,hc8⟩:=je0 8 0 c hc;have LK2:Hid (lineK m S.data.toList=doK m c ((pr.map (·.data.toList)).map numL)):=hid (by rw[LK.out];unfold lineW;rw[CO.out,hc];rfl);have sf:=λ(w:World) (ad:Addr) (mm:Mode)=>run_store tnp w ad (Value.func (.func (cmdF c)) #[] #[]) mm rfl;have SF:=hid (λ(w:World)=>show(Instr.slice 44 (.slice (some ⟨g,0,none⟩) (pr.length+1) (pr.length+1)) (some (.int .i64 1)) none none).run tnp w=.ok (.slice (cutAt (some ⟨g,0,none⟩) (pr.length+1) 1 1) pr.length pr.length) w from jfu 44 9 1 (some ⟨g,0,none⟩) (pr.length+1) (pr.length+1) 1 Twn.underlying44 (by kernel_rfl) (by omega) w);have WP:=hid (λW R (h:St w0 W (row (.slice (some ⟨g,0,none⟩) (pr.length+1) (pr.length+1)) 9 1 (pr.length+1) (Value.string p0::pr.map Value.string)::R))=>show StrsAt W (cutAt (some ⟨g,0,none⟩) (pr.length+1) 1 1) pr from j8r (j2z h.own) (pr.length+1) 1 1 (by simp));generalize cutAt (some ⟨g,0,none⟩) (pr.length+1) 1 1=a1 at *;have s4:=((s3.alloc (.cells #[.string ⟨(cmdW c).toArray⟩,.int .i64 (cmdN c),.func (.func (cmdF c)) #[] #[]] 66)).allocAt (.cells #[] 3) (w2.heap.size+1) (by simp)).madeRow 1 0 rfl (by simp[maxLen]) 0 (Nat.le_refl _);have HC:=hid hc8;have HN:=hid hcn;have sl:=SF.out;clear hc hc8 s3 LK CO hcw hcn;have NM:Hid ((pr.map (·.data.toList)).map numL=pr.map λq=>numL q.data.toList):=hid (by rw[List.map_map];rfl);rw[NM.out]at LK2;have NG:Hid (∀k,(h:k<pr.length)->(pr.map λq=>numL q.data.toList).getD k 0=numL pr[k].data.toList/\(pr.map λq=>numL q.data.toList).take (k+1)=(pr.map λq=>numL q.data.toList).take k++[numL pr[k].data.toList]):=hid λk h=>by
   refine⟨by simp[h],?_⟩;rw[List.take_succ_eq_append_getElem (by simpa using h),List.getElem_map]
  have NL:(pr.map λq=>numL q.data.toList).length=pr.length:=by simp
  generalize(pr.map λq=>numL q.data.toList)=nums at *;go_wp2_with fail
  clear sl sf
  go_loopw [7,19] (λv i wr=>∃k:Nat,k<=pr.length/\i=.int .i64 k/\St w0 wr (row v 3 1 k ((nums.take k).map (Value.int .i64))::box w2.heap.size #[.string ⟨(cmdW c).toArray⟩,.int .i64 (cmdN c),.func (.func (cmdF c)) #[] #[]] 66::row (.slice (some ⟨g,0,none⟩) (pr.length+1) (pr.length+1)) 9 1 (pr.length+1) (Value.string p0::pr.map Value.string)::box B #[.string ⟨#[]⟩] 9::L)) (λ_ i _=>pr.length-(intOf i).toNat)
  case atStart=>exact⟨0,Nat.zero_le _,rfl,s4⟩
  case round=>
   clear s4;obtain⟨k,hk,rfl,s5⟩:=hrel;by_cases hlt:k<pr.length
   ·obtain⟨b,off,rfl,c0⟩:=(WP.out _ _ s5.at2).cells k hlt;have i1:(0:Int)<=(k:Int):=by omega
    have i2:(k:Int)<(pr.length:Int):=by omega
    obtain⟨n1,n2⟩:=NG.out k hlt;have hsz:=PS.out pr[k] (List.getElem_mem hlt);have NC:=jdh pr[k] wr (by omega);have N1:=hid n1;have N2:=hid n2;generalize pr[k]=q at *;clear n1 n2 hsz;go_wp2_with fail
    refine NC.mono ?_;rintro e w3 ⟨hE,rfl⟩;unfold NumEnds at hE;clear NC c0;rcases jnr q.data.toList with hz|hz
    ·rw[if_neg (by omega)]at hE;subst hE;have LK3:Hid (lineK m S.data.toList=(m,NO)):=hid (by
      rw[LK2.out];exact jv9 HV.out HC.out (by rw[NL];exact HN.out.symm) ⟨k,by omega,by rw[N1.out,hz];decide⟩)
     have CB:=jg7 B _ NO [] _ w0 wr s5.at3;clear hz s5;go_wp2_with fail
     refine leaves_cons (f:=35) (args:=#[.pointer (some ⟨B,0,none⟩)]) (by simp) (by simp[go_sem]) ?_;refine CB.mono ?_;rintro e u' w4 ⟨rfl,rfl,s6⟩;have q4:=s6.cells.1;have FIN:=hid (MachAt.less (A:=_::_::_::[_]) (HBH.out w4 [_,_,_,_] s6));unfold strB at q4 FIN;clear CB;simp[Leaves,settle,results,Tryz.results24,go_sem,q4];exact⟨by rw[LK3.out];rfl,by rw[LK3.out];exact FIN.out⟩
    ·rw[if_pos hz]at hE;subst hE;generalize numL q.data.toList=z at *;have o5:=s5.own;have z5:=s5.size;obtain⟨va,vc,rfl,_⟩:=j4c o5;clear hz;go_wp2_with ((at_builtin;refine j36 jf4 (by rfl) _ _ (by rfl) w0.heap.size (.slice va k vc) k ((nums.take k).map (Value.int .i64)) (by rfl) wr.heap.size 1 1 (by rfl) #[.int .i64 z] 3 (0,0) (by rfl) (by simp[Value.oneCell']) (by omega) (by omega) (by omega) (heap_alloc_new wr _) (o5.alloc _) (by simp;omega) ?_);intro gg cap3 w7 hown hgrow hat hl)
     have s6:=s5.app (World.grownBy_alloc wr _ none) hown hgrow hat hl;clear hown hgrow hat hl s5 o5;go_wp2_with fail
     go_roundw
     case rel=>exact⟨k+1,hlt,by go_num,by rw[N2.out,List.map_append];exact s6⟩
     case measure=>simp[intOf];omega
   ·obtain rfl:k=pr.length:=by omega
    rw[List.take_of_length_le (by omega)]at s5;have nl:nums.length=pr.length:=NL;rw[<- nl]at s5;obtain⟨va,vc,rfl,hI⟩:=s5.ints;obtain⟨c2,_⟩:=s5.at1.cells;have MA:=HBH.out wr [_,_,_,_] s5.at3;have MC:=jmi c HC.out M m va vc nums _ p w0 wr EH.out MA HV.out hI (by rw[NL];exact HN.out.symm);rw[<- LK2.out]at MC;have cf:=jj2 c HC.out;clear MA hI s5 nl;go_wp2_with fail
    rw[NL]at MC;refine MC.mono ?_;rintro e w4 ⟨rfl,MA2⟩;obtain⟨L2,s6,BK⟩:=MA2.use;obtain⟨c6,f6⟩:=s6.cells;have s7:=s6.set 0 (.string ⟨(lineK m S.data.toList).2.toArray⟩);have q7:=s7.cells.1;have FIN:=hid (MachAt.less (A:=_::[_,_,_]) (BK _ _ s7));generalize ho:(lineK m S.data.toList).2=out at *;have HO:=hid ho;clear ho;clear MC MA2 BK s6 s7 c2 cf;go_wp2_with fail
    refine leaves_cons (f:=35) (args:=#[.pointer (some ⟨B,0,none⟩)]) (by simp) (by simp[go_sem]) ?_;refine(jm0 ⟨B,0,none⟩ _).mono ?_;rintro e u' w5 ⟨rfl,rfl,rfl⟩;simp[Leaves,settle,results,Tryz.results24,go_sem,q7];exact⟨by rw[HO.out];rfl,FIN.out⟩
def freshN (x:Int):Nd:=⟨x,none,0,[],0⟩
theorem je1:keys ([1,2,3].map freshN)=startM.2:=rfl
theorem jl6:chainOk 0 ([1,2,3].map freshN)=true:=by rw[jt];decide
theorem jhg (w0 w:World)(xs:List Int)(R:List Res)(h:St w0 w R):St w0 w (nds (xs.map freshN)++R):=by
 induction xs with
 | nil=>exact h
 | cons x xs ih=>exact(ih.nilRow 76 2)
theorem jd1 (a:Option Addr)(cap:Nat)(w:World)(hx:IntsAt w a [1,2,3]) :
  Calls tnp 21 #[.slice a 3 cap] w (GaveChain w 0 startM.2 true):=by
 have s0:=((St.start w).alloc (.cells #[.int .i64 0,.slice none 0 0] 34)).allocAt (.cells #[.int .i64 0,.slice none 0 0] 34) (w.heap.size+1) (by simp);have s1:=s0.nilRow 60 3;obtain⟨b,off,rfl,hcell⟩:=hx.resolve_left (by simp);have HC:=hid (λW (h:Below w.heap.size w W) (k:Nat) (hk:k<3)=>(h.cell (p:=⟨b,off+k,none⟩) (jo (hcell k (by simpa using hk)))).trans (hcell k (by simpa using hk)));clear hx hcell s0;go_enter Twn.func21,Tryz.ntmps21
 go_wp2_with fail
 go_loopw [14] (λi wr=>∃(k:Nat) (a':Option Addr) (c':Nat),k<=3/\i=.int .i64 k/\St w wr [row (.slice a' k c') 60 3 k (ncells (([1,2,3].take k).map freshN)),box (w.heap.size+1) #[.int .i64 0,.slice a' k c'] 34,box w.heap.size #[.int .i64 0,.slice none 0 0] 34]) (λi _=>3-(intOf i).toNat)
 case atStart=>exact⟨0,none,0,Nat.zero_le _,rfl,s1⟩
 case round=>
  clear s1;obtain⟨k,a',c',hk,rfl,s2⟩:=hrel;by_cases hlt:k<3
  ·have c0:=HC.out _ s2.below k hlt;have i1:(0:Int)<=(k:Int):=by omega
   have i2:(k:Int)<3:=by omega
   have SN:Hid (ncells (([1,2,3].take (k+1)).map freshN)=ncells (([1,2,3].take k).map freshN)++[.int .i64 (([1,2,3]:List Int).getD k 0),.slice none 0 0,.int .i64 0]):=hid (by
    rcases(by omega:k=0\/k=1\/k=2)with rfl|rfl|rfl<;>rfl)
   have NL:Hid ((ncells (([1,2,3].take k).map freshN)).length=k*3):=hid (by rw[j1a,List.length_map,List.length_take];simp;omega);generalize([1,2,3]:List Int).getD k 0=x at *;obtain⟨c1,f1⟩:=s2.at1.cells;have o2:=s2.own;have z2:=s2.size;go_wp2_with ((at_builtin;refine j36 j3m (by rfl) _ _ (by rfl) w.heap.size (.slice a' k c') k (ncells (([1,2,3].take k).map freshN)) (by rfl) wr.heap.size 1 1 (by rfl) #[.int .i64 x,.slice none 0 0,.int .i64 0] 60 (0,0) (by rfl) (by simp[Value.oneCell']) (by omega) (by omega) (by omega) (heap_alloc_new wr _) (o2.alloc _) (by simp;omega) ?_);intro gg cap3 w7 hown hgrow hat hl;have s7:=(s2.app (World.grownBy_alloc wr _ none) hown hgrow hat hl).at1;obtain⟨d7,f7⟩:=s7.cells)
   have s8:=(s7.set 1 (.slice (some ⟨gg,0,none⟩) (k+1) cap3)).at1;have FIN:=hid s8;clear hown hgrow hat hl s7 s8 s2 o2;go_wp2_with fail
   go_roundw
   case rel=>exact⟨k+1,some ⟨gg,0,none⟩,cap3,hlt,by go_num,by rw[SN.out];exact FIN.out⟩
   case measure=>simp[intOf];omega
  ·obtain rfl:k=3:=by omega
   have CV:=jz 0 a' c' ([1,2,3].map freshN) wr (by simp) (λn hn=>by
    obtain⟨x,_,rfl⟩:=List.mem_map.1 hn;exact Nat.zero_le _) ⟨j2z s2.own,λn hn=>by
     obtain⟨x,_,rfl⟩:=List.mem_map.1 hn;exact⟨.inl rfl,Nat.zero_le _⟩⟩
   rw[jl6]at CV;obtain⟨c1,_⟩:=s2.at1.cells;go_wp2_with fail
   refine CV.mono ?_;rintro e w3 ⟨rfl,hb⟩;have s3:=s2.call hb;obtain⟨c3,_⟩:=s3.at1.cells;obtain⟨r3,f3⟩:=s3.at2.cells;have s4:=(s3.at2.set 0 (.int .i64 0)).set 1 (.slice a' 3 c');have q4:=s4.cells.1;have s5:=jhg w _ [1,2,3] _ s4.drop;have FIN:=hid (gaveChain (num:=0) (ns:=[1,2,3].map freshN) (ok:=true) (s5.perm List.perm_middle) rfl je1 rfl);clear s2 s3 s4 s5 hb CV;go_wp2_with fail
   exact bodyPost_ret (v:=.tuple #[.agg #[.int .i64 0,.slice a' 3 c'],.bool true]) (by simp[results,Tryz.results21,go_sem,q4]) rfl FIN.out
def rowF (v:Value)(n:Nat)(bs:List Value):Res:=
 ⟨v.ownBlock,λo=>bs.length=n*1/\((v=.slice none 0 0/\n=0)\/∃g cap cur fz,v=.slice (some ⟨g,0,none⟩) n cap/\o=some (.cells cur 5 fz)/\fz.2<=n*1/\n<=cap/\cap<=maxLen/\cur.size=cap*1/\cur.toList.take (n*1)=bs)⟩
def NB (z:Res):Prop:=∀w,z.holds w->∀k,z.blk=some k->∃o,w.heap[k]?=some o/\∀c fz,o≠.cells c 5 fz
theorem jqn {b:Nat}{cs:Array Value}{t:TypeId}(h:t≠5):NB (box b cs t):=λw hw k hk=>by
 cases hk;exact⟨_,hw,λc fz e=>by cases e;exact h rfl⟩
theorem jqo {v:Value}{e:TypeId}{size n:Nat}{xs:List Value}(h:e≠5):NB (row v e size n xs):=λw hw k hk=>by
 obtain⟨_,⟨rfl,_⟩|⟨g,cap,cur,rfl,ho,_⟩⟩:=hw
 ·cases hk
 ·have hk':k=g:=by
   have:some g=some k:=hk;cases this;rfl
  subst hk';exact⟨_,ho,λc fz e=>by cases e;exact h rfl⟩
theorem St.others {b:Nat}{w0 w w':World}(hb:Below w0.heap.size w w')(ho:Lib.OthersKept 5 (some b) w w'):∀{rs:List Res},St w0 w rs->(∀z∈rs,z.blk≠some b/\NB z)->St w0 w' rs
 | [],h,_=>Below.trans h hb
 | r::rs,h,hz=>by
  obtain⟨h1,h2,h3,hr⟩:=h;obtain⟨n1,n2⟩:=hz r List.mem_cons_self;have key:∀k,r.blk=some k->w'.heap[k]?=w.heap[k]?/\k<w'.heap.size:=λk hk=>by
   obtain⟨o,ho1,ho2⟩:=n2 w h1 k hk;have:=ho k o ho1 (λe=>n1 (hk.trans e)) ho2;exact⟨this.trans ho1.symm,(Array.getElem?_eq_some_iff.1 this).1⟩
  exact⟨Res.holds_same h1 λk hk=>(key k hk).1,λk hk=>⟨(h2 k hk).1,(key k hk).2⟩,h3,St.others hb ho hr λz hz'=>hz z (List.mem_cons_of_mem _ hz')⟩
def PtrOk (b:Nat)(p:Value):Prop:=p=.pointer none\/p=.pointer (some ⟨b,0,none⟩)
theorem juh {b:Nat}{p v:Value}{l:List UInt8}{w0 w:World}{rs:List Res}(hp:PtrOk b p)(s:St w0 w (box b #[p,v] 43::rowF v l.length (Lib.byteCells l)::rs)):Bld w0.heap.size b l w:=by
 have h1:=s.lt;have h2:=s.boxAt;obtain⟨h3,h4,_,_⟩:=s.2.2.2;have hne:v.ownBlock≠some b:=by
  rcases s.2.2.1 (rowF v l.length (Lib.byteCells l)) (by simp)with h|h
  ·cases h
  ·exact λe=>h e.symm
 have ho:w.ownsRowF w0.heap.size 5 1 v (Lib.byteCells l).length (Lib.byteCells l):=by
  have hl:(Lib.byteCells l).length=l.length:=Lib.byteCells_length l;rw[hl];obtain⟨k1,k2⟩:=h3;refine⟨k1,?_⟩;rcases k2 with k2|⟨g,cap,cur,fz,rfl,k3,k4,k5,k6,k7,k8⟩
  ·exact .inl k2
  ·exact .inr ⟨g,cap,cur,fz,rfl,(h4 g rfl).1,k3,k4,k5,k6,k7,k8⟩
 rcases hp with rfl|rfl
 ·exact .inl ⟨h1.1,v,h2,ho,hne⟩
 ·exact .inr ⟨h1.1,v,h2,ho,hne⟩
theorem jsh {b:Nat}{p v:Value}{n:Nat}{bs:List Value}{l':List UInt8}{w0 w w':World}{rs:List Res}(s:St w0 w (box b #[p,v] 43::rowF v n bs::rs))(hz:∀z∈rs,NB z)(hB:Bld w0.heap.size b l' w')(hb:Below w0.heap.size w w')(ho:Lib.OthersKept 5 (some b) w w') :
  ∃p' v',PtrOk b p'/\St w0 w' (box b #[p',v'] 43::rowF v' l'.length (Lib.byteCells l')::rs):=by
 have hap:∀z∈rs,z.blk≠some b:=λz hz e=>by
  rcases s.2.2.1 z (by simp[hz])with h|h
  ·cases h
  ·exact h e.symm
 have s2:St w0 w' rs:=St.others hb ho s.drop.drop λz hz'=>⟨hap z hz',hz z hz'⟩;have key:∀p',Lib.BuilderAtF 43 5 w0.heap.size b p' (Lib.byteCells l') w'->∃v',St w0 w' (box b #[p',v'] 43::rowF v' l'.length (Lib.byteCells l')::rs):=λp' h=>by
  obtain⟨k1,v',k2,k3,k4⟩:=h;rw[Lib.byteCells_length]at k3;have hlt:=k3.lt;refine⟨v',k2,λc hc=>by cases hc;exact⟨k1,(Array.getElem?_eq_some_iff.1 k2).1⟩,?_,⟨k3.1,?_⟩,λc hc=>hlt c hc,?_,s2⟩
  ·intro z hz';rcases List.mem_cons.1 hz' with rfl|hz'
   ·exact .inr λe=>k4 e.symm
   ·exact .inr λe=>hap z hz' e.symm
  ·rcases k3.2 with h|⟨g,cap,cur,fz,rfl,h1,h2,h3⟩
   ·exact .inl h
   ·exact .inr ⟨g,cap,cur,fz,rfl,h2,h3⟩
  ·intro z hz';rcases k3.2 with⟨rfl,_⟩|⟨g,cap,cur,fz,rfl,h1,h2,h3⟩
   ·exact .inl rfl
   ·refine .inr λe=>?_;have hzb:z.blk=some g:=e.symm;obtain⟨o,ho1,ho2⟩:=hz z hz' w (by
     have:=s.drop.drop;exact(this.pull hz').1) g hzb
    have h4:=ho g o ho1 (λe=>hap z hz' (hzb.trans e)) ho2;have h5:some o=some (Obj.cells cur 5 fz):=h4.symm.trans h2;cases h5;exact ho2 _ _ rfl
 rcases hB with h|h
 ·obtain⟨v',hv⟩:=key _ h;exact⟨_,v',.inl rfl,hv⟩
 ·obtain⟨v',hv⟩:=key _ h;exact⟨_,v',.inr rfl,hv⟩
def MB (w0 w:World)(M b:Nat)(m:Mach)(l:List UInt8)(rs:List Res):Prop:=
 ∃p v,PtrOk b p/\MachAt w0 w M m (box b #[p,v] 43::rowF v l.length (Lib.byteCells l)::rs)
theorem MB.below {w0 w:World}{M b:Nat}{m:Mach}{l:List UInt8}{rs:List Res}(h:MB w0 w M b m l rs):Below w0.heap.size w0 w:=by
 obtain⟨p,v,_,hM⟩:=h;exact hM.below
theorem MB.write {w0 w:World}{M b:Nat}{m:Mach}{l:List UInt8}{rs:List Res}(h:MB w0 w M b m l rs)(hz:∀z∈rs,NB z)(x:List UInt8)(hl:l.length+x.length<=140737488355328) :
  Calls tnp 23 #[.pointer (some ⟨b,0,none⟩),.string ⟨x.toArray⟩] w λe w'=>e=.returned (.tuple #[.int .i64 x.length,.nilIface])/\MB w0 w' M b m (l++x) rs:=by
 have hsz:=h.below.size;obtain⟨p,v,hp,a,cap,ms,hk,s⟩:=h;have s1:=s.perm (List.perm_middle (l₁:=box M #[.int .i64 m.1,.slice a ms.length cap] 40::row (.slice a ms.length cap) 60 3 ms.length (ncells ms)::nds ms));have s2:=s1.under (rs':=rowF v l.length (Lib.byteCells l)::(box M #[.int .i64 m.1,.slice a ms.length cap] 40::row (.slice a ms.length cap) 60 3 ms.length (ncells ms)::nds ms)++rs) (λt=>t.perm (List.perm_middle (l₁:=box M #[.int .i64 m.1,.slice a ms.length cap] 40::row (.slice a ms.length cap) 60 3 ms.length (ncells ms)::nds ms))) (by
  intro z hz;simp only[List.cons_append,List.mem_cons,List.mem_append]at hz ⊢;rcases hz with h|h|h|h|h
  ·exact .inr (.inr (.inr (.inl h)))
  ·exact .inl h
  ·exact .inr (.inl h)
  ·exact .inr (.inr (.inl h))
  ·exact .inr (.inr (.inr (.inr h))))
 have nb:∀z∈(box M #[.int .i64 m.1,.slice a ms.length cap] 40::row (.slice a ms.length cap) 60 3 ms.length (ncells ms)::nds ms)++rs,NB z:=by
  intro z hz';rcases List.mem_append.1 hz' with hz'|hz'
  ·rcases List.mem_cons.1 hz' with rfl|hz'
   ·exact jqn (by decide)
   ·rcases List.mem_cons.1 hz' with rfl|hz'
    ·exact jqo (by decide)
    ·obtain⟨n,_,rfl⟩:=List.mem_map.1 hz';exact jqo (by decide)
  ·exact hz z hz'
 refine(j1t w0.heap.size b l x w (juh hp s2) hl hsz).mono ?_;rintro e w' ⟨rfl,hB,hb,ho⟩;obtain⟨p',v',hp',s3⟩:=jsh s2 nb hB hb ho;refine⟨rfl,p',v',hp',a,cap,ms,hk,?_⟩;exact s3.perm ((List.Perm.cons _ (List.perm_middle (l₁:=box M #[.int .i64 m.1,.slice a ms.length cap] 40::row (.slice a ms.length cap) 60 3 ms.length (ncells ms)::nds ms)).symm).trans (List.perm_middle (l₁:=box M #[.int .i64 m.1,.slice a ms.length cap] 40::row (.slice a ms.length cap) 60 3 ms.length (ncells ms)::nds ms)).symm)
def jla:List UInt8:=[119,114,105,116,101,32,49,32,55,10,114,101,97,100,32,49,32,49,10,114,101,97,100,32,51,32,49,10,112,97,115,115,32,48,10,112,97,115,115,32,49,10,114,101,97,100,32,49,32,49,10,114,101,97,100,32,51,32,49,10,115,104,111,119,10,116,101,108,108,32,49,10,116,101,108,108,32,48,10,114,101,97,100,32,49,32,49,10]
def jhn:List UInt8:=[111,107,10,110,111,110,101,10,110,111,110,101,10,111,107,10,111,107,10,97,115,107,101,100,32,55,10,105,115,32,55,10,118,105,101,119,32,48,10,49,32,49,61,55,32,48,10,50,32,49,61,55,32,48,10,51,32,49,61,55,32,49,10,111,107,10,111,107,10,105,115,32,55,10,113,117,105,101,116,10]
theorem jms:execT jla=jhn:=by decide +kernel
def jq1:List UInt8:=[119,114,105,116,101,32,49,32,55,10,112,97,115,115,32,48,10,119,114,105,116,101,32,50,32,56,10,100,114,111,112,32,49,10,115,104,111,119,10,115,101,116,116,108,101,10,114,101,97,100,32,50,32,49,10]
def jlj:List UInt8:=[111,107,10,111,107,10,111,107,10,111,107,10,118,105,101,119,32,49,10,50,32,49,61,55,32,48,10,51,32,45,32,48,10,115,116,101,112,115,32,50,10,105,115,32,55,10,113,117,105,101,116,10]
theorem jpk:execT jq1=jlj:=by decide +kernel
def juk:List UInt8:=[119,114,105,116,101,32,49,32,55,10,115,101,116,116,108,101,10,97,100,100,32,57,10,114,101,97,100,32,57,32,49,10,100,114,111,112,32,51,10,115,104,111,119,10]
def jqu:List UInt8:=[111,107,10,115,116,101,112,115,32,52,10,111,107,10,105,115,32,55,10,111,107,10,118,105,101,119,32,50,10,49,32,49,61,55,32,49,10,50,32,49,61,55,32,49,10,57,32,49,61,55,32,49,10,113,117,105,101,116,10]
theorem jt0:execT juk=jqu:=by decide +kernel
def jul:List UInt8:=[119,114,105,116,101,32,49,10,119,114,105,116,101,32,49,32,49,48,48,10,119,114,105,116,101,32,55,32,49,10,112,97,115,115,32,48,10,112,97,115,115,32,50,10,116,101,108,108,32,120,10,100,114,111,112,32,56,10,97,100,100,32,49,10,114,101,97,100,32,56,32,49,10,114,101,97,100,32,49,10,115,104,111,119,32,49,10,10]
def jqv:List UInt8:=[119,104,97,116,10,110,111,10,110,111,10,110,111,10,110,111,10,110,111,10,110,111,10,110,111,10,110,111,10,119,104,97,116,10,119,104,97,116,10,119,104,97,116,10,113,117,105,101,116,10]
theorem jt1:execT jul=jqv:=by decide +kernel
def jl9:List UInt8:=[]
def jhm:List UInt8:=[113,117,105,101,116,10]
theorem jmr:execT jl9=jhm:=by decide +kernel
theorem jl0:∀(f n:Nat),(decN f n).length<=f
 | 0,_=>Nat.le_refl _
 | f+1,n=>by
  unfold decN;split
  ·simp
  ·have:=jl0 f (n / 10);simp;omega
theorem jl1 (n:Nat):(decT n).length<=4:=jl0 4 n
def asNd (k:Key):Nd:=⟨k.1,none,0,k.2.1,k.2.2⟩
theorem jh0 (ks:List Key):keys (ks.map asNd)=ks:=by
 unfold keys;rw[List.map_map];induction ks with
 | nil=>rfl
 | cons k r ih=>rw[List.map_cons,ih];rfl
theorem jm3 {v:Int}{ks:List Key}(h:VP v ks):(chainC v ks).length<=20000:=by
 have hc:chainOk v (ks.map asNd)=true:=by rw[jt,jh0];exact j1p.2 h
 have h1:=j5s hc;rw[jh0]at h1;rw[<- h1];have h2:=j3x hc (ks.map asNd).length (Nat.le_refl _);have h3:=h.2.1.2;unfold chainText;rw[if_pos hc];rw[List.length_map]at h2 ⊢;omega
theorem j61 (m:Mach)(v:Int)(o:Option (List Key)):(doneK m v o).2.length<=3:=by cases o<;>simp[doneK,OK,NO]
theorem jr6 (r:Int×Int):(readT r).length<=20:=by
 have:=jl1 r.1.toNat;unfold readT;split
 ·simp[IS];omega
 ·split
  ·simp[ASKED];omega
  ·split<;>simp[NONE,NO]
theorem jc3 {m:Mach}(h:VP m.1 m.2)(l:List UInt8):(lineK m l).2.length<=20000:=by
 unfold lineK lineW;split
 ·rename_i c _
  generalize(cutB 32 l).tail.map numL=xs;unfold doK;split
  ·exact Nat.le_trans (j61 _ _ _) (by omega)
  ·exact Nat.le_trans (j61 _ _ _) (by omega)
  ·exact Nat.le_trans (j61 _ _ _) (by omega)
  ·exact Nat.le_trans (j61 _ _ _) (by omega)
  ·exact Nat.le_trans (j61 _ _ _) (by omega)
  ·have:=jl1 (settleK m.2).2;simp[STEPS];omega
  ·exact Nat.le_trans (jr6 _) (by omega)
  ·exact jm3 h
 ·simp[WHAT]
theorem jh6 {ps:List ByteArray}{t:List UInt8}(h:ps.map (·.data.toList)=cutB 10 t)(k:Nat)(hk:k<ps.length-1):(linesOf t).take (k+1)=(linesOf t).take k++[ps[k].data.toList]:=by
 have hl:(linesOf t).length=ps.length-1:=by unfold linesOf;rw[List.length_dropLast,<- h,List.length_map]
 rw[List.take_succ_eq_append_getElem (by omega)];congr 2;unfold linesOf;simp only[List.getElem_dropLast];simp only[<- h,List.getElem_map]
theorem jr9 {ps:List ByteArray}{t:List UInt8}(h:ps.map (·.data.toList)=cutB 10 t)(k:Nat)(hk:k<ps.length-1):runL ((linesOf t).take (k+1))=runF (runL ((linesOf t).take k)) ps[k].data.toList:=by
 rw[jh6 h k hk,j89]
theorem jft (t:List UInt8):∀k,(runL ((linesOf t).take k)).2.length<=20000*k
 | 0=>by simp[runL]
 | k+1=>by
  have ih:=jft t k;by_cases hk:k<(linesOf t).length
  ·rw[List.take_succ_eq_append_getElem hk,j89];have:=jc3 (j9e ((linesOf t).take k)) (linesOf t)[k];simp only[runF,List.length_append];omega
  ·rw[List.take_of_length_le (by omega)];rw[List.take_of_length_le (by omega)]at ih;omega
theorem jap (b:UInt8):∀{s p:List UInt8},p∈cutB b s->p.length<=s.length
 | [],p,h=>by simp[cutB]at h;simp[h]
 | c::r,p,h=>by
  unfold cutB at h;split at h
  ·rcases List.mem_cons.1 h with rfl|h
   ·simp
   ·have:=jap b h;simp;omega
  ·rcases List.mem_cons.1 h with rfl|h
   ·have:(cutB b r).headD []∈cutB b r:=by
     have:=j4o b r;cases hc:cutB b r with
     | nil=>exact absurd hc this
     | cons a b=>simp
    have:=jap b this;exact Nat.succ_le_succ this
   ·have:=jap b (List.mem_of_mem_tail h);simp;omega
theorem jpm (F L B M C R I:Res)(A:List Res):(F::L::B::M::C::R::(A++[I])).Perm (M::R::(A++(B::F::[L,C,I]))):=by
 refine(List.perm_middle (l₁:=[F,L,B])).trans (List.Perm.cons _ ?_);refine(List.perm_middle (l₁:=[F,L,B,C])).trans (List.Perm.cons _ ?_);refine(List.perm_append_comm_assoc [F,L,B,C] A [I]).trans (List.Perm.append_left A ?_);exact List.perm_middle (l₁:=[F,L])
theorem MachAt.pull {w0 w:World}{M:Nat}{m:Mach}{r:Res}{rs:List Res}(h:MachAt w0 w M m rs)(hr:r∈rs):St w0 w [r]:=by
 obtain⟨a,cap,ms,_,s⟩:=h;exact s.pull (by simp[hr])
theorem MB.string {w0 w:World}{M b:Nat}{m:Mach}{l:List UInt8}{rs:List Res}(h:MB w0 w M b m l rs) :
  Calls tnp 26 #[.pointer (some ⟨b,0,none⟩)] w λe w'=>e=.returned (.string ⟨l.toArray⟩)/\Below w0.heap.size w0 w':=by
 have hb:=h.below;obtain⟨p,v,hp,a,cap,ms,hk,s⟩:=h;have s1:=s.perm (List.perm_middle (l₁:=box M #[.int .i64 m.1,.slice a ms.length cap] 40::row (.slice a ms.length cap) 60 3 ms.length (ncells ms)::nds ms));have s2:=s1.under (rs':=rowF v l.length (Lib.byteCells l)::(box M #[.int .i64 m.1,.slice a ms.length cap] 40::row (.slice a ms.length cap) 60 3 ms.length (ncells ms)::nds ms)++rs) (λt=>t.perm (List.perm_middle (l₁:=box M #[.int .i64 m.1,.slice a ms.length cap] 40::row (.slice a ms.length cap) 60 3 ms.length (ncells ms)::nds ms))) (by
  intro z hz;simp only[List.cons_append,List.mem_cons,List.mem_append]at hz ⊢;rcases hz with h|h|h|h|h
  ·exact .inr (.inr (.inr (.inl h)))
  ·exact .inl h
  ·exact .inr (.inl h)
  ·exact .inr (.inr (.inl h))
  ·exact .inr (.inr (.inr (.inr h))))
 refine(Twn.Builder_String_any_k w0.heap.size b l w (juh hp s2) hb.size).mono ?_;rintro e w' ⟨rfl,_,hb2,_⟩;exact⟨rfl,hb.trans hb2⟩
theorem jf9 (S:ByteArray)(p:Addr)(w:World)(hE:Env w p) :
  Calls tnp 13 #[.string S] w λe w'=>e=.returned (strB (execT S.data.toList))/\Below w.heap.size w w':=by
 by_cases hlen:400<S.size
 ·have F:Hid (execT S.data.toList=LONG):=hid (by unfold execT;rw[if_pos (by simpa using hlen)]);have t1:decide ((400:Int)<(S.size:Int))=true:=by simp;omega
  clear hlen;go_enter Twn.func13,Tryz.ntmps13
  go_wp2_with fail
  go_ret
  exact⟨by rw[F.out];rfl,Below.refl _ _⟩
 ·have F:Hid (execT S.data.toList=(runL (linesOf S.data.toList)).2++endT (runL (linesOf S.data.toList)).1):=hid (by unfold execT;rw[if_neg (by simpa using hlen)]);have t1:decide ((400:Int)<(S.size:Int))=false:=by simp;omega
  have hS:S.size<=400:=by omega
  have EH:=hid hE;have s0:=(St.start w).alloc (.cells #[.int .i64 1,.int .i64 2,.int .i64 3] 3);have I0:IntsAt (w.alloc (.cells #[.int .i64 1,.int .i64 2,.int .i64 3] 3)) (some ⟨w.heap.size,0,none⟩) [1,2,3]:=.inr ⟨w.heap.size,0,rfl,λj hj=>by
   rw[s0.cells.1];simp only[List.length_cons,List.length_nil]at hj;rcases(by omega:j=0\/j=1\/j=2)with rfl|rfl|rfl<;>rfl⟩
  have CN:=jd1 (some ⟨w.heap.size,0,none⟩) 3 _ I0;clear hlen hE I0;go_enter Twn.func13,Tryz.ntmps13
  go_wp2_with fail
  refine CN.mono ?_;rintro e w1 ⟨a,cap,ms,rfl,hk,ss⟩;have s1:=s0.join ss;have HK:=hid hk;clear CN s0 ss hk;have s2:=((s1.alloc (.cells #[.int .i64 0,.slice a ms.length cap] 34)).allocAt (.cells #[.int .i64 0,.slice a ms.length cap] 40) (w1.heap.size+1) (by simp)).allocAt (.cells #[.pointer none,.slice none 0 0] 43) (w1.heap.size+1+1) (by simp);go_wp2_with fail
  refine(ja3 10 S _ (by omega) (EH.out.max.below s2.below)).mono ?_;rintro e w2 ⟨g,ps,rfl,hps,hpl,sq⟩;obtain⟨N,hN⟩:∃N,ps.length=N+1:=by
   cases ps with
   | nil=>exact absurd hps.symm (j4o 10 _)
   | cons p0 pr=>exact⟨pr.length,rfl⟩
  have s3:=s2.join sq;simp only[List.cons_append,List.nil_append]at s3;have s4:=s3.add (r:=rowF (.slice none 0 0) 0 []) (j1y w2 none) ⟨rfl,.inl ⟨rfl,rfl⟩⟩ (by simp[rowF,Value.ownBlock]);have s5:St w w2 (box (w1.heap.size+1) #[.int .i64 0,.slice a ms.length cap] 40::row (.slice a ms.length cap) 60 3 ms.length (ncells ms)::(nds ms++(box (w1.heap.size+1+1) #[.pointer none,.slice none 0 0] 43::rowF (.slice none 0 0) 0 []::[row (.slice (some ⟨g,0,none⟩) ps.length ps.length) 9 1 ps.length (ps.map Value.string),box w1.heap.size #[.int .i64 0,.slice a ms.length cap] 34,box w.heap.size #[.int .i64 1,.int .i64 2,.int .i64 3] 3]))):=by
   exact s4.perm (jpm _ _ _ _ _ _ _ _)
  have MB0:MB w w2 (w1.heap.size+1) (w1.heap.size+1+1) startM [] [row (.slice (some ⟨g,0,none⟩) ps.length ps.length) 9 1 ps.length (ps.map Value.string),box w1.heap.size #[.int .i64 0,.slice a ms.length cap] 34,box w.heap.size #[.int .i64 1,.int .i64 2,.int .i64 3] 3]:=⟨_,_,.inl rfl,a,cap,ms,HK.out,s5⟩;have LT:=hid (λk hk=>jr9 hps k hk);have HPS:=hid hps;clear hps s1 s2 s3 s4 s5 sq;generalize w1.heap.size+1+1=b at *;generalize w1.heap.size+1=M at *;generalize w1.heap.size=C at *;rw[hN];have PL:Hid (∀k,(hk:k<ps.length)->ps[k].size<=400):=hid λk hk=>by
   have:=jap 10 (s:=S.data.toList) (p:=ps[k].data.toList) (by rw[<- HPS.out];exact List.mem_map_of_mem (List.getElem_mem hk));have h2:ps[k].data.toList.length=ps[k].size:=by simp
   have h3:S.data.toList.length=S.size:=by simp
   omega
  have NBS:Hid (∀z∈[row (.slice (some ⟨g,0,none⟩) ps.length ps.length) 9 1 ps.length (ps.map Value.string),box C #[.int .i64 0,.slice a ms.length cap] 34,box w.heap.size #[.int .i64 1,.int .i64 2,.int .i64 3] 3],NB z):=hid (by
   intro z hz;simp only[List.mem_cons,List.not_mem_nil,or_false]at hz;rcases hz with rfl|rfl|rfl
   ·exact jqo (by decide)
   ·exact jqn (by decide)
   ·exact jqn (by decide))
  have RR:=hid (λwr (m:Mach) (l:List UInt8) (h:MB w wr M b m l [row (.slice (some ⟨g,0,none⟩) ps.length ps.length) 9 1 ps.length (ps.map Value.string),box C #[.int .i64 0,.slice a ms.length cap] 34,box w.heap.size #[.int .i64 1,.int .i64 2,.int .i64 3] 3]) (k:Nat) (hk:k<ps.length)=>show wr.cell? ⟨g,k,none⟩=some (.string ps[k])from by
   obtain⟨pp,v,_,hM⟩:=h;have s:=hM.pull (r:=row (.slice (some ⟨g,0,none⟩) ps.length ps.length) 9 1 ps.length (ps.map Value.string)) (by simp);rw[s.own.cellAt k (by omega),List.getElem?_map,List.getElem?_eq_getElem hk];rfl)
  generalize hrs:[row (.slice (some ⟨g,0,none⟩) ps.length ps.length) 9 1 ps.length (ps.map Value.string),box C #[.int .i64 0,.slice a ms.length cap] 34,box w.heap.size #[.int .i64 1,.int .i64 2,.int .i64 3] 3]=rs at *;clear hrs;go_wp2_with fail
  go_loopw [29] (λi wr=>∃k:Nat,k<=N/\i=.int .i64 k/\MB w wr M b (runL ((linesOf S.data.toList).take k)).1 (runL ((linesOf S.data.toList).take k)).2 rs) (λi _=>N-(intOf i).toNat)
  case atStart=>exact⟨0,Nat.zero_le _,rfl,MB0⟩
  case round=>
   clear MB0;obtain⟨k,hk,rfl,hMB⟩:=hrel;have hol:=jft S.data.toList k;by_cases hlt:k<N
   ·have hkp:k<ps.length:=by omega
    have c0:=RR.out _ _ _ hMB k hkp;have i1:(0:Int)<=(k:Int):=by omega
    have i2:(k:Int)<(N:Int):=by omega
    have VK:=j9e ((linesOf S.data.toList).take k);have LT2:=hid (LT.out k (by omega));have psz:=PL.out k hkp;generalize ps[k]=line at *;have ll:=jc3 VK line.data.toList;generalize runL ((linesOf S.data.toList).take k)=st at *;obtain⟨mm,out⟩:=st;simp only at hMB VK hol ll;obtain⟨pp,v,hp,MA⟩:=hMB;have RC:=jra M mm line _ p w wr psz MA VK EH.out;go_wp2_with fail
    refine RC.mono ?_;rintro e w3 ⟨rfl,MA2⟩;have MB2:MB w w3 M b (lineK mm line.data.toList).1 out rs:=⟨pp,v,hp,MA2⟩;have WC:=MB2.write NBS.out (lineK mm line.data.toList).2 (by omega);unfold strB;clear RC MA MA2 MB2 c0 hp VK;go_wp2_with fail
    refine WC.mono ?_;rintro e w4 ⟨rfl,MB3⟩;have FIN:=hid MB3;clear WC MB3;go_wp2_with fail
    go_roundw
    case rel=>exact⟨k+1,hlt,by go_num,by rw[LT2.out];exact FIN.out⟩
    case measure=>simp[intOf];omega
   ·obtain rfl:k=N:=by omega
    have TL:(linesOf S.data.toList).take k=linesOf S.data.toList:=List.take_of_length_le (by
     unfold linesOf;rw[List.length_dropLast,<- HPS.out,List.length_map];omega)
    rw[TL]at hMB hol;have VK:=j9e (linesOf S.data.toList);generalize runL (linesOf S.data.toList)=st at *;obtain⟨mm,out⟩:=st;simp only at hMB VK hol F;have HM:=hid hMB;obtain⟨pp,v,hp,a2,cap2,ms2,hk2,s6⟩:=hMB;have hcv:chainOk mm.1 ms2=true:=by rw[jt,hk2];exact j1p.2 VK
    have CQ:=jac mm.1 a2 cap2 ms2 wr hcv (j1s s6 rfl);rw[hk2]at CQ;obtain⟨c6,_⟩:=s6.cells;have WB:=hid (λW (h:Below wr.heap.size wr W) (x:List UInt8) (hl:out.length+x.length<=140737488355328)=>(show MB w W M b mm out rs from⟨pp,v,hp,a2,cap2,ms2,hk2,s6.call h⟩).write NBS.out x hl);clear hp hk2 s6 hcv VK TL;go_wp2_with fail
    refine CQ.mono ?_;rintro e w3 ⟨rfl,hb3⟩;clear CQ c6;cases hq:quietK mm.2 with
    | true=>
     have EX:Hid (execT S.data.toList=out++[113,117,105,101,116,10]):=hid (by rw[F.out];unfold endT;rw[if_pos hq];rfl);have WC:=WB.out _ hb3 [113,117,105,101,116,10] (by simp;omega);clear hb3 hq;go_wp2_with fail
     refine WC.mono ?_;rintro e w4 ⟨rfl,MB3⟩;have SC:=MB3.string;clear WC MB3;go_wp2_with fail
     refine SC.mono ?_;rintro e w5 ⟨rfl,hb5⟩;have FB:=hid hb5;clear SC hb5;go_wp2_with fail
     go_ret
     exact⟨by rw[EX.out];rfl,FB.out⟩
    | false=>
     have EX:Hid (execT S.data.toList=out++[98,117,115,121,10]):=hid (by rw[F.out];unfold endT;rw[hq];rfl);have WC:=WB.out _ hb3 [98,117,115,121,10] (by simp;omega);clear hb3 hq;go_wp2_with fail
     refine WC.mono ?_;rintro e w4 ⟨rfl,MB3⟩;have SC:=MB3.string;clear WC MB3;go_wp2_with fail
     refine SC.mono ?_;rintro e w5 ⟨rfl,hb5⟩;have FB:=hid hb5;clear SC hb5;go_wp2_with fail
     go_ret
     exact⟨by rw[EX.out];rfl,FB.out⟩
end Go.Proofs.T
