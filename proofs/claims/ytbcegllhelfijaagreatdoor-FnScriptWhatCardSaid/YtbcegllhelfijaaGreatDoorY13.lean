/-
  A part of the proof.
-/
import Derived.WalkKit
import Derived.WalkSpells
import Derived.WalkLawsBesides
import Derived.Deep.QuietTactic
import Derived.BigQuiet
import Derived.Lib.Hide
import Derived.Deep.RegionLaw
import Derived.Deep.AppendLies
import Derived.Outline
import Derived.OpenShut
import Derived.Laws.IdiomCopy
import Derived.Test.YtbcegllhelfijaaGreatDoorY05
set_option linter.all false
set_option maxRecDepth 100000
set_option maxHeartbeats 8000000
namespace Go.Proofs.T
open Go.RowKit
def IntsAt (w:World)(a:Option Addr)(xs:List Int):Prop:=
 xs=[]\/∃b off,a=some ⟨b,off,none⟩/\∀j,j<xs.length->w.cell? ⟨b,off+j,none⟩=some (.int .i64 (xs.getD j 0))
def BytesAt (w:World)(a:Option Addr)(n:Nat):Prop:=
 n=0\/∃c off,a=some ⟨c,off,none⟩/\∀j,j<n->∃z:Nat,z<256/\w.cell? ⟨c,off+j,none⟩=some (.int .u8 z)
def Rd (w:World)(b:Nat)(s:Value)(m:Nat):Prop:=
 ∃(a:Option Addr) (n cap p:Nat),s=.slice a n cap/\w.heap[b]?=some (.cells #[.slice a n cap,.int .i64 p] 55 (0,0))/\p<=m/\n<=2000/\BytesAt w a n/\(∀x,a=some x->n≠0->x.block<b)
theorem j1y (w:World)(r:Option Nat):w.grownBy w r:=⟨rfl,rfl,rfl,Nat.le_refl _,λ_ _ _=>rfl⟩
theorem jbt {a b c:World}{r:Option Nat}(h:a.grownBy b r)(k:b.grownBy c r):a.grownBy c r:=
 ⟨k.os.trans h.os,k.tape.trans h.tape,k.output.trans h.output,Nat.le_trans h.size k.size,λi hi hr=>(k.block i (Nat.lt_of_lt_of_le hi h.size) hr).trans (h.block i hi hr)⟩
theorem jn5 {a b:World}{r:Option Nat}(h:a.grownBy b r):a.grownBy b.drew r:=⟨h.os,h.tape,h.output,h.size,h.block⟩
theorem jpx {a b:World}{k:Nat}(h:a.grownBy b (some k))(o:Nat)(v:Value):a.grownBy (b.setCell ⟨k,o,none⟩ v) (some k):=
 jbt h ⟨rfl,rfl,rfl,by simp[World.setCell],λi _ hi=>by
  rw[Below.heap_setCell];intro e;exact hi (by rw[e])⟩
theorem j72 {w w':World}(h:w.grownBy w' none):Below w.heap.size w w':=⟨h.os,h.tape,h.output,h.size,λk hk=>h.block k hk (by simp)⟩
theorem j2s {w w':World}(h:Below w.heap.size w w')(r:Option Nat):w.grownBy w' r:=⟨h.os,h.tape,h.output,h.size,λk hk _=>h.block k hk⟩
theorem cell_of_heap {w:World}{b o:Nat}{cs:Array Value}{t:TypeId}{f:Nat×Nat}(h:w.heap[b]?=some (.cells cs t f)):w.cell? ⟨b,o,none⟩=cs[o]?:=by
 simp[World.cell?,h]
theorem frozen_of_heap {w:World}{b o:Nat}{cs:Array Value}{t:TypeId}(h:w.heap[b]?=some (.cells cs t (0,0))):w.frozen? ⟨b,o,none⟩=false:=by
 simp[World.frozen?,h]
theorem jfc {w:World}{b o:Nat}{cs:Array Value}{t:TypeId}{f:Nat×Nat}(h:w.heap[b]?=some (.cells cs t f))(v:Value) :
  (w.setCell ⟨b,o,none⟩ v).heap[b]?=some (.cells (cs.setIfInBounds o v) t f):=by
 simp[World.setCell,Array.getElem?_modify,h]
theorem j98 {w:World}{b:Nat}{o:Obj}(h:w.heap[b]?=some o):b<w.heap.size:=(Array.getElem?_eq_some_iff.1 h).1
theorem jo {w:World}{b o:Nat}{v:Value}(h:w.cell? ⟨b,o,none⟩=some v):b<w.heap.size:=World.block_lt_of_cell? w ⟨b,o,none⟩ h
theorem IntsAt.below {w w':World}{a:Option Addr}{xs:List Int}(h:IntsAt w a xs)(hb:Below w.heap.size w w'):IntsAt w' a xs:=by
 rcases h with h|⟨b,off,rfl,hc⟩
 ·exact .inl h
 ·exact .inr ⟨b,off,rfl,λj hj=>by rw[hb.cell (p:=⟨b,off+j,none⟩) (jo (hc j hj))];exact hc j hj⟩
theorem BytesAt.grown {w w':World}{a:Option Addr}{n:Nat}{r:Option Nat}(h:BytesAt w a n)(hb:w.grownBy w' r)(ha:∀x,a=some x->n≠0->some x.block≠r):BytesAt w' a n:=by
 rcases h with h|⟨b,off,rfl,hc⟩
 ·exact .inl h
 ·refine .inr ⟨b,off,rfl,λj hj=>?_⟩;obtain⟨z,hz,hcell⟩:=hc j hj;exact⟨z,hz,hb.cell hcell (ha ⟨b,off,none⟩ rfl (by omega))⟩
theorem jpw {a b c:World}{r r':Option Nat}(h:a.grownBy b r)(k:b.grownBy c r')(hr:∀x,r'=some x->a.heap.size<=x):a.grownBy c r:=
 ⟨k.os.trans h.os,k.tape.trans h.tape,k.output.trans h.output,Nat.le_trans h.size k.size,λi hi hne=>(k.block i (Nat.lt_of_lt_of_le hi h.size) (λe=>by have:=hr i e.symm;omega)).trans (h.block i hi hne)⟩
theorem jgy (a:World)(p:Addr)(v:Value):a.grownBy (a.setCell p v) (some p.block):=
 ⟨rfl,rfl,rfl,by simp[World.setCell],λi _ hi=>by
  obtain⟨k,o,s⟩:=p;rw[Below.heap_setCell];intro e;exact hi (by rw[e])⟩
theorem jbu (w:World)(x y:Obj):((w.alloc x).alloc y).heap[w.heap.size+1]?=some y:=by
 have:=heap_alloc_new (w.alloc x) y;simpa using this
def Elem (P:Program)(t e:TypeId)(size bytes:Nat):Prop:=
 P.underlying t=some (.slice e)/\∃i z,P.info? e=some i/\i.zero=some z/\i.size=size/\i.bytes=bytes/\z.cells.size=size/\0<size
section
variable {P:Program}{w:World}{o:Oper}{a:Act}
theorem jep {K:Act->World->Prop}{Q:Exit->Act->World->Prop}{t e:TypeId}{size bytes:Nat}(he:Elem P t e size bytes)(s x:Operand)
  (ho:o.op=.call { callee:=.builtin .append,args:=#[s,x],argTypes:=#[t,t] })(base:Nat)(v:Value)(n:Nat)(xs:List Value)(hs:a.eval s=v)
  (g m c:Nat)(hx:a.eval x=.slice (some ⟨g,0,none⟩) m c)(news:Array Value)(e':TypeId)(fr:Nat×Nat)(hl:news.size=m*size)(h1:∀u∈news.toList,u.oneCell'=true)(hm:0<m)(hn:n+m<=1000000000)(hby:bytes<=10000)
  (hh:w.heap[g]?=some (.cells news e' fr))(hown:w.ownsRow base e size v n xs)(hbase:base<=w.heap.size)
  (h:∀g' cap w',w'.ownsRow base e size (.slice (some ⟨g',0,none⟩) (n+m) cap) (n+m) (xs++news.toList)->w.grownBy w' v.ownBlock->(v.ownBlock=some g'\/g'=w.heap.size)->g'<w'.heap.size->K (a.put o.dst (.slice (some ⟨g',0,none⟩) (n+m) cap)) w'):o.wp P a w K Q:=by
 obtain⟨ht,i,z,hi,hz,hsize,hb,hzs,hsz⟩:=he;refine wp_append_lies w s x t ho base e i z size bytes ht hi hz hsize hb hzs hsz v n xs hs hown ⟨g,0,none⟩ m c news.toList hx (by simpa using hl) (World.news_of_block hh) h1 hm (by unfold maxLen;omega) ?_ hbase _ rfl h;exact Nat.le_trans (Nat.mul_le_mul hn hby) (by decide)
theorem jtv {K:Act->World->Prop}{Q:Exit->Act->World->Prop}{ops:Array Oper}{E:Prop}{t e:TypeId}{size bytes:Nat}(he:Elem P t e size bytes)(hgd:o.guard=none)(s x:Operand)
  (ho:o.op=.call { callee:=.builtin .append,args:=#[s,x],argTypes:=#[t,t] })(base:Nat)(v:Value)(n:Nat)(xs:List Value)(hs:a.eval s=v)
  (g m c:Nat)(hx:a.eval x=.slice (some ⟨g,0,none⟩) m c)(news:Array Value)(e':TypeId)(fr:Nat×Nat)(hl:news.size=m*size)(h1:∀u∈news.toList,u.oneCell'=true)(hm:0<m)(hn:n+m<=1000000000)(hby:bytes<=10000)
  (hh:w.heap[g]?=some (.cells news e' fr))(hown:w.ownsRow base e size v n xs)(hbase:base<=w.heap.size)
  (h:∀g' cap w',w'.ownsRow base e size (.slice (some ⟨g',0,none⟩) (n+m) cap) (n+m) (xs++news.toList)->w.grownBy w' v.ownBlock->(v.ownBlock=some g'\/g'=w.heap.size)->g'<w'.heap.size->K (a.put o.dst (.slice (some ⟨g',0,none⟩) (n+m) cap)) w') :
  if Region.wanted o (yielded ops a.tmps)=true then Oper.wp P o a w K Q else E:=by
 rw[if_pos (by simp[Region.wanted,hgd])];exact jep he s x ho base v n xs hs g m c hx news e' fr hl h1 hm hn hby hh hown hbase h
theorem j36 {Q:Exit->Act->World->Prop}{ops:Array Oper}{rest:List Oper}{t e:TypeId}{size bytes:Nat}(he:Elem P t e size bytes)(hgd:o.guard=none)(s x:Operand)
  (ho:o.op=.call { callee:=.builtin .append,args:=#[s,x],argTypes:=#[t,t] })(base:Nat)(v:Value)(n:Nat)(xs:List Value)(hs:a.eval s=v)
  (g m c:Nat)(hx:a.eval x=.slice (some ⟨g,0,none⟩) m c)(news:Array Value)(e':TypeId)(fr:Nat×Nat)(hl:news.size=m*size)(h1:∀u∈news.toList,u.oneCell'=true)(hm:0<m)(hn:n+m<=1000000000)(hby:bytes<=10000)
  (hh:w.heap[g]?=some (.cells news e' fr))(hown:w.ownsRow base e size v n xs)(hbase:base<=w.heap.size)
  (h:∀g' cap w',w'.ownsRow base e size (.slice (some ⟨g',0,none⟩) (n+m) cap) (n+m) (xs++news.toList)->w.grownBy w' v.ownBlock->(v.ownBlock=some g'\/g'=w.heap.size)->g'<w'.heap.size->wpList P ops Q rest (a.put o.dst (.slice (some ⟨g',0,none⟩) (n+m) cap)) w'):wpList P ops Q (o::rest) a w:=
 wpList_plain hgd λ_ hK=>jep he s x ho base v n xs hs g m c hx news e' fr hl h1 hm hn hby hh hown hbase λg' cap w' h2 h3 h4 h5=>hK _ _ (h g' cap w' h2 h3 h4 h5)
end
section
variable {P:Program}{w:World}{o:Oper}{a:Act}
theorem jwd {K:Act->World->Prop}{Q:Exit->Act->World->Prop}{t e:TypeId}{size bytes:Nat}(he:Elem P t e size bytes)(s x:Operand)
  (ho:o.op=.call { callee:=.builtin .append,args:=#[s,x],argTypes:=#[t,t] })(base:Nat)(v:Value)(n:Nat)(xs:List Value)(hs:a.eval s=v)
  (ad:Addr)(m c:Nat)(hx:a.eval x=.slice (some ad) m c)(news:List Value)(hl:news.length=m*size)(h1:∀u∈news,u.oneCell'=true)(hm:0<m)(hn:n+m<=1000000000)(hby:bytes<=10000)
  (hh:∀j u,news[j]?=some u->w.cell? (ad.add j)=some u)(hown:w.ownsRow base e size v n xs)(hbase:base<=w.heap.size)
  (h:∀g' cap w',w'.ownsRow base e size (.slice (some ⟨g',0,none⟩) (n+m) cap) (n+m) (xs++news)->w.grownBy w' v.ownBlock->(v.ownBlock=some g'\/g'=w.heap.size)->g'<w'.heap.size->K (a.put o.dst (.slice (some ⟨g',0,none⟩) (n+m) cap)) w'):o.wp P a w K Q:=by
 obtain⟨ht,i,z,hi,hz,hsize,hb,hzs,hsz⟩:=he;refine wp_append_lies w s x t ho base e i z size bytes ht hi hz hsize hb hzs hsz v n xs hs hown ad m c news hx hl hh h1 hm (by unfold maxLen;omega) ?_ hbase _ rfl h;exact Nat.le_trans (Nat.mul_le_mul hn hby) (by decide)
end
def IsRow (k:IntKind)(w:World)(a:Option Addr)(len cap:Nat)(zs:List Int):Prop:=
 (a=none/\len=0/\cap=0/\zs=[]) \/
 ∃x,a=some x/\len<=cap/\cap<=maxLen/\zs.length=cap/\(∀i,i<zs.length->w.cell? (x.add i)=some (.int k (zs.getD i 0)))/\∀n∈zs,(Lit.int k n).wf=true
theorem IsRow.le {k:IntKind}{w:World}{a:Option Addr}{len cap:Nat}{zs:List Int}(h:IsRow k w a len cap zs):len<=cap/\cap<=maxLen:=by
 rcases h with⟨_,h1,h2,_⟩|⟨_,_,h1,h2,_⟩
 ·subst h1 h2;exact⟨Nat.le_refl _,Nat.zero_le _⟩
 ·exact⟨h1,h2⟩
theorem IsRow.at {k:IntKind}{w:World}{a:Option Addr}{len cap:Nat}{zs:List Int}(h:IsRow k w a len cap zs):len=0\/∃b off,a=some ⟨b,off,none⟩/\∀j,j<len->w.cell? ⟨b,off+j,none⟩=some (.int k (zs.getD j 0))/\(Lit.int k (zs.getD j 0)).wf=true:=by
 rcases h with⟨_,h1,_⟩|⟨x,rfl,h1,h2,h3,h4,h5⟩
 ·exact .inl h1
 ·by_cases hl:len=0
  ·exact .inl hl
  ·right;obtain⟨b,off,s⟩:=x;have h0:=h4 0 (by omega);obtain rfl:s=none:=by simpa[Addr.add]using World.cell?_spot h0
   refine⟨b,off,rfl,λj hj=>?_⟩;have hj':j<zs.length:=by omega
   have hc:=h4 j hj';have e:(⟨b,off,none⟩:Addr).add j=⟨b,off+j,none⟩:=by unfold Addr.add;split<;>simp_all
   rw[e]at hc;exact⟨hc,h5 _ (by simp[List.getD,hj'])⟩
theorem IsRow.bytes {w:World}{a:Option Addr}{len cap:Nat}{zs:List Int}(h:IsRow .u8 w a len cap zs):BytesAt w a len:=by
 rcases h.at with h|⟨b,off,rfl,hc⟩
 ·exact .inl h
 ·refine .inr ⟨b,off,rfl,λj hj=>?_⟩;obtain⟨h1,h2⟩:=hc j hj;have h3:0<=zs.getD j 0/\zs.getD j 0<256:=by
   have:=bounds_u8 h2;omega
  exact⟨(zs.getD j 0).toNat,by omega,by rw[h1,Int.toNat_of_nonneg h3.1]⟩
theorem jtl {w:World}{base g cap:Nat}{xs:List Int}(h:w.ownsRow base 3 1 (.slice (some ⟨g,0,none⟩) xs.length cap) xs.length (xs.map (Value.int .i64))):IntsAt w (some ⟨g,0,none⟩) xs:=
 .inr ⟨g,0,rfl,λj hj=>by
  rw[Nat.zero_add,h.cellAt j (by omega)];simp[hj]⟩
theorem jf4:Elem tnp 37 3 1 8:=by
 obtain⟨i,hi,h0,h1,h2⟩:=info_parts (show(tnp.info? 3).map (λi=>(i.zero,i.size,i.bytes))=some (some (.int .i64 0),1,8) by kernel_rfl);exact⟨Twn.underlying37,i,_,hi,h0,h1,h2,rfl,by omega⟩
theorem jiq (x:Int)(h0:0<=x)(h1:x<4611686018427387904):0<=bits .xor .i64 x (x / 64):=by
 obtain⟨a,rfl⟩:=Int.eq_ofNat_of_zero_le h0;have ha:a<2 ^ 62:=by omega
 have hb:a / 64<2 ^ 62:=by omega
 have e:((a:Int) / 64)=((a / 64:Nat):Int):=by omega
 rw[e];have hx:a ^^^ (a / 64)<2 ^ 62:=Nat.xor_lt_two_pow ha hb;have h1:(BitVec.ofInt 64 (a:Int)).toNat=a:=by
  rw[BitVec.ofInt_natCast,BitVec.toNat_ofNat];exact Nat.mod_eq_of_lt (by omega)
 have h2:(BitVec.ofInt 64 ((a / 64:Nat):Int)).toNat=a / 64:=by
  rw[BitVec.ofInt_natCast,BitVec.toNat_ofNat];exact Nat.mod_eq_of_lt (by omega)
 show 0<=IntKind.i64.wrap ((BitVec.ofInt 64 (a:Int) ^^^ BitVec.ofInt 64 ((a / 64:Nat):Int)).toNat:Int);rw[BitVec.toNat_xor,h1,h2,IntKind.wrap_i64];omega
open Go.RowKit
theorem jtk {w:World}{base:Nat}{v:Value}{xs:List Int}(h:w.ownsRow base 3 1 v xs.length (xs.map (Value.int .i64))):∃a cap,v=.slice a xs.length cap/\IntsAt w a xs:=by
 by_cases h0:0<xs.length
 ·obtain⟨g,cap,rfl,_,_⟩:=h.form h0;exact⟨_,cap,rfl,jtl h⟩
 ·obtain rfl:xs=[]:=List.eq_nil_of_length_eq_zero (by omega);rcases h.2 with⟨h1,_⟩|⟨g,cap,cur,h1,_⟩
  ·exact⟨none,0,h1,.inl rfl⟩
  ·exact⟨_,cap,h1,.inl rfl⟩
theorem j1j {a b:Bool}(h:a=b):Ending.returned (.bool a)=.returned (.bool b):=by rw[h]
theorem j1g {B:Nat}{a w:World}(h:Below B a w)(n:Nat):Below B a (w.drewN n):=⟨h.os,h.tape,h.output,h.size,h.block⟩
theorem jql (w:World):(Instr.makeSlice 37 (.int .i64 5) (.int .i64 5)).run tnp w=.ok (.slice (some ⟨w.heap.size,0,none⟩) 5 5) (w.alloc (.cells #[.int .i64 0,.int .i64 0,.int .i64 0,.int .i64 0,.int .i64 0] 3)):=by kernel_rfl
structure Res where
 blk:Option Nat
 P:Option Obj->Prop
def Res.look (r:Res)(w:World):Option Obj:=r.blk.bind λb=>w.heap[b]?
def Res.holds (r:Res)(w:World):Prop:=r.P (r.look w)
def Res.apart (r s:Res):Prop:=r.blk=none\/r.blk≠s.blk
def St (w0 w:World):List Res->Prop
 | []=>Below w0.heap.size w0 w
 | r::rs=>r.holds w/\(∀b,r.blk=some b->w0.heap.size<=b/\b<w.heap.size)/\(∀s∈rs,Res.apart r s)/\St w0 w rs
def boxo (b:Nat)(o:Obj):Res:=⟨some b,λx=>x=some o⟩
abbrev box (b:Nat)(cs:Array Value)(t:TypeId):Res:=boxo b (.cells cs t (0,0))
def row (v:Value)(e:TypeId)(size n:Nat)(xs:List Value):Res:=
 ⟨v.ownBlock,λo=>xs.length=n*size/\((v=.slice none 0 0/\n=0)\/∃g cap cur,v=.slice (some ⟨g,0,none⟩) n cap/\o=some (.cells cur e (0,0))/\n<=cap/\cap<=maxLen/\cur.size=cap*size/\cur.toList.take (n*size)=xs)⟩
def rd (w0:World)(b m:Nat):Res:=
 ⟨some b,λo=>∃(a:Option Addr) (n cap p:Nat),o=some (.cells #[.slice a n cap,.int .i64 p] 55 (0,0))/\p<=m/\n<=2000/\BytesAt w0 a n⟩
theorem Res.apart_symm {r s:Res}(h:r.apart s):s.apart r:=by
 rcases h with h|h
 ·cases hs:s.blk with
  | none=>exact .inl hs
  | some b=>exact .inr (by rw[h,hs];simp)
 ·exact .inr (Ne.symm h)
section
variable {w0 w w':World}{rs:List Res}{r s t u x y:Res}
theorem St.below:∀{rs:List Res},St w0 w rs->Below w0.heap.size w0 w
 | [],h=>h
 | _::_,h=>St.below h.2.2.2
theorem St.blk_lt:∀{rs:List Res},St w0 w rs->∀z∈rs,∀b,z.blk=some b->b<w.heap.size
 | [],_,z,hz,_,_=>by cases hz
 | a::l,h,z,hz,b,hb=>by
  rcases List.mem_cons.1 hz with rfl|hz
  ·exact(h.2.1 b hb).2
  ·exact St.blk_lt h.2.2.2 z hz b hb
theorem St.drop (h:St w0 w (r::rs)):St w0 w rs:=h.2.2.2
theorem St.start (w:World):St w w []:=Below.refl _ _
theorem St.size (h:St w0 w rs):w0.heap.size<=w.heap.size:=h.below.size
theorem St.at1 (h:St w0 w (r::s::rs)):St w0 w (s::r::rs):=by
 obtain⟨h1,h2,h3,k1,k2,k3,hr⟩:=h;refine⟨k1,k2,?_,h1,h2,?_,hr⟩
 ·intro z hz;rcases List.mem_cons.1 hz with rfl|hz
  ·exact Res.apart_symm (h3 s (by simp))
  ·exact k3 z hz
 ·intro z hz;exact h3 z (by simp[hz])
theorem St.under (h:St w0 w (r::rs)){rs':List Res}(f:St w0 w rs->St w0 w rs')(hm:∀z∈rs',z∈rs):St w0 w (r::rs'):=
 ⟨h.1,h.2.1,λz hz=>h.2.2.1 z (hm z hz),f h.2.2.2⟩
theorem St.at2 (h:St w0 w (r::s::t::rs)):St w0 w (t::r::s::rs):=(h.under St.at1 (by simp[or_left_comm])).at1
theorem St.at3 (h:St w0 w (r::s::t::u::rs)):St w0 w (u::r::s::t::rs):=(h.under St.at2 (by intro z;simp only[List.mem_cons];rintro(h|h|h|h)<;>simp[h])).at1
theorem St.at4 (h:St w0 w (r::s::t::u::x::rs)):St w0 w (x::r::s::t::u::rs):=(h.under St.at3 (by intro z;simp only[List.mem_cons];rintro(h|h|h|h|h)<;>simp[h])).at1
theorem Res.holds_same {w w':World}{r:Res}(h:r.holds w)(he:∀b,r.blk=some b->w'.heap[b]?=w.heap[b]?):r.holds w':=by
 unfold Res.holds at *;rw[show r.look w'=r.look w from ?_]
 ·exact h
 ·unfold Res.look;cases hb:r.blk with
  | none=>rfl
  | some b=>exact he b hb
theorem St.kept:∀{rs:List Res}{k:Option Nat},St w0 w rs->w.grownBy w' k->(∀b,k=some b->w0.heap.size<=b)->(∀z∈rs,z.blk=none\/z.blk≠k)->St w0 w' rs
 | [],k,h,hg,hk,_=>by
  have:=jpw (j2s h none) hg hk;exact j72 this
 | r::rs,k,h,hg,hk,hz=>by
  obtain⟨h1,h2,h3,hr⟩:=h;refine⟨Res.holds_same h1 λb hb=>?_,λb hb=>⟨(h2 b hb).1,Nat.lt_of_lt_of_le (h2 b hb).2 hg.size⟩,h3,St.kept hr hg hk λz hz'=>hz z (by simp[hz'])⟩;refine hg.block b (h2 b hb).2 ?_;rcases hz r (by simp)with e|e
  ·rw[hb]at e;cases e
  ·rw[<- hb];exact e
theorem St.turn {r':Res}(h:St w0 w (r::rs))(hg:w.grownBy w' r.blk)(hr:r'.holds w')(hb:∀b,r'.blk=some b->r.blk=some b\/w.heap.size<=b)(hl:∀b,r'.blk=some b->b<w'.heap.size):St w0 w' (r'::rs):=by
 obtain⟨h1,h2,h3,hs⟩:=h;refine⟨hr,λb hb'=>⟨?_,hl b hb'⟩,λz hz=>?_,hs.kept hg (λb hb'=>(h2 b hb').1) λz hz=>?_⟩
 ·rcases hb b hb' with e|e
  ·exact(h2 b e).1
  ·exact Nat.le_trans hs.size e
 ·cases hb':r'.blk with
  | none=>exact .inl hb'
  | some b=>
   refine .inr ?_;rcases hb b hb' with e|e
   ·rw[hb',<- e];rcases h3 z hz with e'|e'
    ·rw[e']at e;cases e
    ·exact e'
   ·intro e';have:=hs.blk_lt z hz b (by rw[<- e',hb']);omega
 ·rcases h3 z hz with e'|e'
  ·rw[e'];cases hz':z.blk with
   | none=>exact .inl rfl
   | some b=>exact .inr (by simp)
  ·exact .inr (Ne.symm e')
theorem St.add {r:Res}(h:St w0 w rs)(hg:w.grownBy w' none)(hr:r.holds w')(hb:∀b,r.blk=some b->w.heap.size<=b/\b<w'.heap.size):St w0 w' (r::rs):=by
 have h1:St w0 w (⟨none,λ_=>True⟩::rs):=⟨trivial,by simp,λz _=>.inl rfl,h⟩;exact h1.turn hg hr (λb hb'=>.inr (hb b hb').1) (λb hb'=>(hb b hb').2)
theorem St.call (h:St w0 w rs)(hb:Below w.heap.size w w'):St w0 w' rs:=h.kept (j2s hb none) (by simp) λz _=>by cases z.blk<;>simp
theorem St.alloc (h:St w0 w rs)(o:Obj):St w0 (w.alloc o) (boxo w.heap.size o::rs):=
 h.add (World.grownBy_alloc w o none) (by simp only[Res.holds,Res.look,boxo,Option.bind_some];exact heap_alloc_new w o) (by intro b hb;cases hb;simp)
theorem St.drew (h:St w0 w rs):St w0 w.drew rs:=h.kept (k:=none) ⟨rfl,rfl,rfl,Nat.le_refl _,λ_ _ _=>rfl⟩ (by simp) λz _=>by cases z.blk<;>simp
theorem St.drewN (h:St w0 w rs)(n:Nat):St w0 (w.drewN n) rs:=h.kept (k:=none) ⟨rfl,rfl,rfl,Nat.le_refl _,λ_ _ _=>rfl⟩ (by simp) λz _=>by cases z.blk<;>simp
theorem St.boxAt {b:Nat}{o:Obj}(h:St w0 w (boxo b o::rs)):w.heap[b]?=some o:=h.1
theorem St.lt {b:Nat}{o:Obj}(h:St w0 w (boxo b o::rs)):w0.heap.size<=b/\b<w.heap.size:=h.2.1 b rfl
theorem St.cells {b:Nat}{cs:Array Value}{ty:TypeId}(h:St w0 w (box b cs ty::rs)):(∀o,w.cell? ⟨b,o,none⟩=cs[o]?)/\∀o,w.frozen? ⟨b,o,none⟩=false:=
 ⟨λ_=>cell_of_heap h.boxAt,λ_=>frozen_of_heap h.boxAt⟩
theorem St.set {b:Nat}{cs:Array Value}{ty:TypeId}(h:St w0 w (box b cs ty::rs))(o:Nat)(v:Value):St w0 (w.setCell ⟨b,o,none⟩ v) (box b (cs.setIfInBounds o v) ty::rs):=
 h.turn (jgy w ⟨b,o,none⟩ v) (by simp only[Res.holds,Res.look,boxo,Option.bind_some];exact jfc h.boxAt v) (λ_ h=>.inl h) (by intro c hc;cases hc;have:=h.lt;simp[World.setCell];omega)
theorem j75 {base:Nat}{v:Value}{e:TypeId}{size n:Nat}{xs:List Value}(h:w.ownsRow base e size v n xs):(row v e size n xs).holds w:=by
 refine⟨h.1,?_⟩;rcases h.2 with h2|⟨g,cap,cur,rfl,h3,h4,h5⟩
 ·exact .inl h2
 ·exact .inr ⟨g,cap,cur,rfl,h4,h5⟩
theorem St.own {v:Value}{e:TypeId}{size n:Nat}{xs:List Value}(h:St w0 w (row v e size n xs::rs)):w.ownsRow w0.heap.size e size v n xs:=by
 obtain⟨⟨h1,h2⟩,h3,_⟩:=h;refine⟨h1,?_⟩;rcases h2 with h2|⟨g,cap,cur,rfl,h4,h5⟩
 ·exact .inl h2
 ·exact .inr ⟨g,cap,cur,rfl,(h3 g rfl).1,h4,h5⟩
theorem St.fresh {base:Nat}{v:Value}{e:TypeId}{size n:Nat}{xs:List Value}(h:St w0 w rs)(hb:Below w.heap.size w w')(ho:w'.ownsRow base e size v n xs)(hbase:w.heap.size<=base):St w0 w' (row v e size n xs::rs):=
 h.add (j2s hb none) (j75 ho) λb hb'=>by have:=ho.lt b hb';omega
theorem St.nilRow (h:St w0 w rs)(e:TypeId)(size:Nat):St w0 w (row (.slice none 0 0) e size 0 []::rs):=
 h.add (j1y w none) (j75 (World.ownsRow_nil w 0 e size)) (by simp[row,Value.ownBlock])
theorem St.madeRow {base:Nat}{cs:Array Value}{e:TypeId}(h:St w0 w (box base cs e::rs))(size cap:Nat)(hs:cs.size=cap*size)(hm:cap<=maxLen)(n:Nat)(hn:n<=cap):St w0 w (row (.slice (some ⟨base,0,none⟩) n cap) e size n (cs.toList.take (n*size))::rs):=by
 refine h.turn (j1y w _) ?_ (λ_ h=>.inl h) λb hb=>?_
 ·refine⟨?_,.inr ⟨base,cap,cs,rfl,h.boxAt,hn,hm,hs,rfl⟩⟩;rw[List.length_take,Array.length_toList,hs];exact Nat.min_eq_left (Nat.mul_le_mul_right _ hn)
 ·cases hb;exact h.lt.2
theorem St.app {W:World}{v:Value}{e:TypeId}{size n n':Nat}{xs xs':List Value}{base g cap:Nat}(h:St w0 w (row v e size n xs::rs))(hW:w.grownBy W none)
  (hown:w'.ownsRow base e size (.slice (some ⟨g,0,none⟩) n' cap) n' xs')(hg:W.grownBy w' v.ownBlock)(hat:v.ownBlock=some g\/g=W.heap.size)(hl:g<w'.heap.size):St w0 w' (row (.slice (some ⟨g,0,none⟩) n' cap) e size n' xs'::rs):=by
 have h2:St w0 W (row v e size n xs::rs):=h.kept hW (by simp) λz _=>by cases z.blk<;>simp
 refine h2.turn hg (j75 hown) (λb hb=>?_) λb hb=>?_
 ·cases hb;rcases hat with e|e
  ·exact .inl e
  ·exact .inr (by rw[e];exact Nat.le_refl _)
 ·cases hb;exact hl
theorem St.ints {v:Value}{xs:List Int}(h:St w0 w (row v 3 1 xs.length (xs.map (Value.int .i64))::rs)):∃a cap,v=.slice a xs.length cap/\IntsAt w a xs:=jtk h.own
end
theorem St.rowSet {w0 w:World}{rs:List Res}{g n cap size:Nat}{e:TypeId}{xs:List Value}(h:St w0 w (row (.slice (some ⟨g,0,none⟩) n cap) e size n xs::rs))(j:Nat)(u:Value):St w0 (w.setCell ⟨g,j,none⟩ u) (row (.slice (some ⟨g,0,none⟩) n cap) e size n (xs.set j u)::rs):=
 h.turn (h.own.stored j u).2 (j75 (h.own.stored j u).1) (λ_ h=>.inl h) (λb hb=>by cases hb;exact((h.own.stored j u).1.lt g rfl).2)
def CellsAt (w:World)(a:Option Addr)(cs:List Value):Prop:=
 cs=[]\/∃b off,a=some ⟨b,off,none⟩/\∀j,j<cs.length->w.cell? ⟨b,off+j,none⟩=cs[j]?
theorem CellsAt.below {w w':World}{a:Option Addr}{cs:List Value}(h:CellsAt w a cs)(hb:Below w.heap.size w w'):CellsAt w' a cs:=by
 rcases h with h|⟨b,off,rfl,hc⟩
 ·exact .inl h
 ·refine .inr ⟨b,off,rfl,λj hj=>?_⟩;have h1:=hc j hj;rw[List.getElem?_eq_getElem hj]at h1;rw[hb.cell (p:=⟨b,off+j,none⟩) (jo h1),hc j hj]
theorem j4c {w:World}{base:Nat}{v:Value}{e:TypeId}{size n:Nat}{xs:List Value}(h:w.ownsRow base e size v n xs):∃a cap,v=.slice a n cap/\CellsAt w a xs:=by
 rcases h.2 with⟨h1,h2⟩|⟨g,cap,cur,h1,_⟩
 ·subst h2;refine⟨none,0,h1,.inl (List.eq_nil_of_length_eq_zero ?_)⟩;have:=h.1;omega
 ·subst h1;refine⟨_,cap,rfl,.inr ⟨g,0,rfl,λj hj=>?_⟩⟩;rw[Nat.zero_add,h.cellAt j (by have:=h.1;omega)]
theorem j2z {w:World}{base:Nat}{a:Option Addr}{e:TypeId}{size n cap:Nat}{xs:List Value}(h:w.ownsRow base e size (.slice a n cap) n xs):CellsAt w a xs:=by
 obtain⟨a',cap',e,h'⟩:=j4c h;cases e;exact h'
def MadeInts (w:World)(ys:List Int)(e:Ending)(w':World):Prop:=
 ∃(a:Option Addr) (cap:Nat),e=.returned (.slice a ys.length cap)/\w'.ownsRow w.heap.size 3 1 (.slice a ys.length cap) ys.length (ys.map (Value.int .i64))/\Below w.heap.size w w'
theorem madeInts {w w':World}{v:Value}{ys zs:List Int}(h:St w w' [row v 3 1 ys.length (ys.map (Value.int .i64))])(he:zs=ys):MadeInts w zs (.returned v) w':=by
 subst he;obtain⟨a,cap,rfl,_⟩:=h.ints;exact⟨a,cap,rfl,h.own,h.below⟩
abbrev Upd:=Int×Int
def updOk (u:Upd):Bool:=decide (0<=u.1/\u.1<=4/\0<=u.2/\u.2<=99)
def logOk (us:List Upd):Bool:=decide (us.length<=12)&&us.all updOk
theorem j6b {u:Upd}(h:updOk u=true):0<=u.1/\u.1<=4/\0<=u.2/\u.2<=99:=by simpa[updOk]using h
theorem jno {us:List Upd}(h:¬us.length<=12):logOk us=false:=by rw[logOk,decide_eq_false h];rfl
theorem jh8 {us:List Upd}(k:Nat)(hk:k<us.length)(h:updOk us[k]=false):logOk us=false:=by
 have:us.all updOk=false:=by
  rw[List.all_eq_false];exact⟨us[k],List.getElem_mem hk,by simp[h]⟩
 rw[logOk,this,Bool.and_false]
theorem jnn {us:List Upd}(h:us.length<=12)(ha:us.all updOk=true):logOk us=true:=by rw[logOk,decide_eq_true h,ha];rfl
theorem j2p {us:List Upd}(h:logOk us=true):us.length<=12/\∀k,(hk:k<us.length)->updOk us[k]=true:=by
 rw[logOk,Bool.and_eq_true,decide_eq_true_eq,List.all_eq_true]at h;exact⟨h.1,λk hk=>h.2 _ (List.getElem_mem hk)⟩
theorem jek (us:List Upd)(k:Nat)(h:k<us.length):us.take (k+1)=us.take k++[us[k]]:=by rw[List.take_succ_eq_append_getElem h]
theorem jg4 {us:List Upd}{k:Nat}(h:k<us.length)(ha:(us.take k).all updOk=true)(hu:updOk us[k]=true):(us.take (k+1)).all updOk=true:=by
 rw[jek us k h,List.all_append,ha];simp[hu]
open Go.RowKit
def ucells (us:List Upd):List Value:=us.flatMap λu=>[.int .i64 u.1,.int .i64 u.2]
theorem j30 (us:List Upd):(ucells us).length=us.length*2:=by
 induction us with
 | nil=>rfl
 | cons u r ih=>
  have e:ucells (u::r)=.int .i64 u.1::.int .i64 u.2::ucells r:=rfl;rw[e];simp only[List.length_cons,ih];omega
theorem js1 (us:List Upd)(j:Nat)(hj:j<us.length):(ucells us)[j*2]?=some (.int .i64 us[j].1)/\(ucells us)[j*2+1]?=some (.int .i64 us[j].2):=by
 induction us generalizing j with
 | nil=>simp at hj
 | cons u r ih=>
  have e:ucells (u::r)=.int .i64 u.1::.int .i64 u.2::ucells r:=rfl;rw[e];cases j with
  | zero=>exact⟨rfl,rfl⟩
  | succ j=>
   have:=ih j (by simpa using hj);rw[show(j+1)*2=j*2+1+1 by omega,show j*2+1+1+1=(j*2+1)+1+1 by omega];simpa using this
def UpdsAt (w:World)(a:Option Addr)(us:List Upd):Prop:=CellsAt w a (ucells us)
theorem UpdsAt.below {w w':World}{a:Option Addr}{us:List Upd}(h:UpdsAt w a us)(hb:Below w.heap.size w w'):UpdsAt w' a us:=CellsAt.below h hb
theorem UpdsAt.cells {w:World}{a:Option Addr}{us:List Upd}(h:UpdsAt w a us)(j:Nat)(hj:j<us.length):∃b off,a=some ⟨b,off,none⟩/\w.cell? ⟨b,off+j*2,none⟩=some (.int .i64 us[j].1)/\w.cell? ⟨b,off+j*2+1,none⟩=some (.int .i64 us[j].2):=by
 have hl:=j30 us;rcases h with h|⟨b,off,rfl,hc⟩
 ·rw[h]at hl;simp at hl;omega
 ·obtain⟨h1,h2⟩:=js1 us j hj;refine⟨b,off,rfl,?_,?_⟩
  ·rw[hc (j*2) (by omega),h1]
  ·rw[Nat.add_assoc,hc (j*2+1) (by omega),h2]
theorem j5c:Elem tnp 58 76 2 16:=by
 obtain⟨i,hi,h0,h1,h2⟩:=info_parts (show(tnp.info? 76).map (λi=>(i.zero,i.size,i.bytes))=some (some (.agg #[.int .i64 0,.int .i64 0]),2,16) by kernel_rfl);exact⟨Twn.underlying58,i,_,hi,h0,h1,h2,rfl,by omega⟩
theorem j82 (n:Int)(w:World) :
  Calls tnp 69 #[.int .i64 n] w λe w'=>e=.returned (.bool (decide (1<=n/\n<=99)))/\w=w':=by
 by_cases h1:1<=n
 ·go_enter Twn.func69,Tryz.ntmps69
  go_wp2
  go_ret
  simp;omega
 ·go_enter Twn.func69,Tryz.ntmps69
  go_wp2
  go_ret
  simp;omega
theorem j5g (n:Int)(w:World)(h:1<=n/\n<=99) :
  Calls tnp 69 #[.int .i64 n] w λe w'=>e=.returned (.bool true)/\w=w':=
 (j82 n w).mono λe w' ⟨h1,h2⟩=>⟨by rw[h1,decide_eq_true h],h2⟩
theorem jn7 (n:Int)(w:World)(h:¬(1<=n/\n<=99)) :
  Calls tnp 69 #[.int .i64 n] w λe w'=>e=.returned (.bool false)/\w=w':=
 (j82 n w).mono λe w' ⟨h1,h2⟩=>⟨by rw[h1,decide_eq_false h],h2⟩
theorem j6i (n a b:Int)(w:World) :
  Calls tnp 59 #[.int .i64 n,.int .i64 a,.int .i64 b] w λe w'=>e=.returned (.bool (decide (a<=n/\n<=b)))/\w=w':=by
 by_cases h1:a<=n
 ·go_enter Twn.func59,Tryz.ntmps59
  go_wp2
  go_ret
  simp;omega
 ·go_enter Twn.func59,Tryz.ntmps59
  go_wp2
  go_ret
  simp;omega
theorem j2f (n a b:Int)(w:World)(h:a<=n/\n<=b) :
  Calls tnp 59 #[.int .i64 n,.int .i64 a,.int .i64 b] w λe w'=>e=.returned (.bool true)/\w=w':=
 (j6i n a b w).mono λe w' ⟨h1,h2⟩=>⟨by rw[h1,decide_eq_true h],h2⟩
theorem j63 (n a b:Int)(w:World)(h:¬(a<=n/\n<=b)) :
  Calls tnp 59 #[.int .i64 n,.int .i64 a,.int .i64 b] w λe w'=>e=.returned (.bool false)/\w=w':=
 (j6i n a b w).mono λe w' ⟨h1,h2⟩=>⟨by rw[h1,decide_eq_false h],h2⟩
open Lib (hid)
theorem j6v (n:Int)(w:World) :
  Calls tnp 110 #[.int .i64 n] w λe w'=>e=.returned (.bool (decide (0<=n/\n<=4)))/\w=w':=by
 by_cases h1:0<=n
 ·go_enter Twn.func110,Tryz.ntmps110
  go_wp2
  go_ret
  exact⟨j1j (by rw[Bool.eq_iff_iff];simp;omega),rfl⟩
 ·go_enter Twn.func110,Tryz.ntmps110
  go_wp2
  go_ret
  exact⟨j1j (by rw[Bool.eq_iff_iff];simp;omega),rfl⟩
theorem j2x (n:Int)(w:World)(h:0<=n/\n<=4):Calls tnp 110 #[.int .i64 n] w λe w'=>e=.returned (.bool true)/\w=w':=by
 have:=j6v n w;rw[decide_eq_true h]at this;exact this
theorem jbz (n:Int)(w:World)(h:¬(0<=n/\n<=4)):Calls tnp 110 #[.int .i64 n] w λe w'=>e=.returned (.bool false)/\w=w':=by
 have:=j6v n w;rw[decide_eq_false h]at this;exact this
theorem j7d (k v:Int)(w:World) :
  Calls tnp 91 #[.agg #[.int .i64 k,.int .i64 v]] w λe w'=>e=.returned (.bool (updOk (k,v)))/\Below w.heap.size w w':=by
 have hb:Below w.heap.size w (w.alloc (.cells #[.int .i64 k,.int .i64 v] 76)):=(Below.refl _ _).alloc (Nat.le_refl _) _;by_cases h1:0<=k/\k<=4
 ·by_cases h2:0<=v
  ·by_cases h3:v<=99
   ·have F:Hid (updOk (k,v)=true):=hid (decide_eq_true ⟨h1.1,h1.2,h2,h3⟩);go_enter Twn.func91,Tryz.ntmps91
    go_wp2_with (go_at_call 110;refine(j2x _ _ h1).mono ?_;rintro e w' ⟨rfl,rfl⟩)
    go_ret
    exact⟨j1j (by first|(rw[F.out];done)|(rw[F.out];simp;omega)),hb⟩
   ·have F:Hid (updOk (k,v)=false):=hid (decide_eq_false λh=>h3 h.2.2.2);go_enter Twn.func91,Tryz.ntmps91
    go_wp2_with (go_at_call 110;refine(j2x _ _ h1).mono ?_;rintro e w' ⟨rfl,rfl⟩)
    go_ret
    exact⟨j1j (by first|(rw[F.out];done)|(rw[F.out];simp;omega)),hb⟩
  ·have F:Hid (updOk (k,v)=false):=hid (decide_eq_false λh=>h2 h.2.2.1);go_enter Twn.func91,Tryz.ntmps91
   go_wp2_with (go_at_call 110;refine(j2x _ _ h1).mono ?_;rintro e w' ⟨rfl,rfl⟩)
   go_ret
   exact⟨j1j (by first|(rw[F.out];done)|(rw[F.out];simp;omega)),hb⟩
 ·have F:Hid (updOk (k,v)=false):=hid (decide_eq_false λh=>h1 ⟨h.1,h.2.1⟩);have HX:=hid h1;clear h1;go_enter Twn.func91,Tryz.ntmps91
  go_wp2_with (go_at_call 110;refine(jbz _ _ HX.out).mono ?_;rintro e w' ⟨rfl,rfl⟩)
  go_ret
  exact⟨j1j (by first|(rw[F.out];done)|(rw[F.out];simp;omega)),hb⟩
theorem j2k (k v:Int)(w:World) :
  Calls tnp 107 #[.agg #[.int .i64 k,.int .i64 v]] w λe w'=>e=.returned (.bool (updOk (k,v)))/\Below w.heap.size w w':=by
 have hb:Below w.heap.size w (w.alloc (.cells #[.int .i64 k,.int .i64 v] 76)):=(Below.refl _ _).alloc (Nat.le_refl _) _;by_cases h1:0<=k/\k<=4
 ·by_cases h2:0<=v/\v<=99
  ·have F:Hid (updOk (k,v)=true):=hid (decide_eq_true ⟨h1.1,h1.2,h2.1,h2.2⟩);have HX:=hid h1;have HY:=hid h2;clear h1 h2;go_enter Twn.func107,Tryz.ntmps107
   go_wp2_with fail
   refine(j2f _ _ _ _ HX.out).mono ?_;rintro e w' ⟨rfl,rfl⟩;go_wp2_with fail
   refine(j2f _ _ _ _ HY.out).mono ?_;rintro e w' ⟨rfl,rfl⟩;go_wp2_with fail
   go_ret
   exact⟨j1j (by first|(rw[F.out];done)|(rw[F.out];simp;omega)),hb⟩
  ·have F:Hid (updOk (k,v)=false):=hid (decide_eq_false λh=>h2 ⟨h.2.2.1,h.2.2.2⟩);have HX:=hid h1;have HY:=hid h2;clear h1 h2;go_enter Twn.func107,Tryz.ntmps107
   go_wp2_with fail
   refine(j2f _ _ _ _ HX.out).mono ?_;rintro e w' ⟨rfl,rfl⟩;go_wp2_with fail
   refine(j63 _ _ _ _ HY.out).mono ?_;rintro e w' ⟨rfl,rfl⟩;go_wp2_with fail
   go_ret
   exact⟨j1j (by first|(rw[F.out];done)|(rw[F.out];simp;omega)),hb⟩
 ·have F:Hid (updOk (k,v)=false):=hid (decide_eq_false λh=>h1 ⟨h.1,h.2.1⟩);have HX:=hid h1;clear h1;go_enter Twn.func107,Tryz.ntmps107
  go_wp2_with fail
  refine(j63 _ _ _ _ HX.out).mono ?_;rintro e w' ⟨rfl,rfl⟩;go_wp2_with fail
  go_ret
  exact⟨j1j (by first|(rw[F.out];done)|(rw[F.out];simp;omega)),hb⟩
theorem j1e (a:Option Addr)(cap:Nat)(us:List Upd)(w:World)(hm:us.length<=1099511627776)(hx:UpdsAt w a us) :
  Calls tnp 70 #[.slice a us.length cap] w λe w'=>e=.returned (.bool (logOk us))/\Below w.heap.size w w':=by
 by_cases hl:us.length<=12
 ·go_enter Twn.func70,Tryz.ntmps70
  go_wp2_with fail
  go_loopw [10] (λi wr=>∃k:Nat,k<=us.length/\i=.int .i64 k/\(us.take k).all updOk=true/\Below w.heap.size w wr) (λi _=>us.length-(intOf i).toNat)
  case atStart=>exact⟨0,Nat.zero_le _,rfl,rfl,Below.refl _ _⟩
  case round=>
   obtain⟨k,hk,rfl,ha,hB⟩:=hrel;have HA:=hid ha;clear ha;by_cases hlt:k<us.length
   ·obtain⟨b,off,rfl,c0,c1⟩:=(hx.below hB).cells k hlt;have hBA:Below w.heap.size w (wr.alloc (.cells #[.int .i64 us[k].1,.int .i64 us[k].2] 76)):=hB.alloc hB.size _;have i1:(0:Int)<=(k:Int):=by omega
    have i2:(k:Int)<(us.length:Int):=by omega
    cases hv:updOk us[k]with
    | true=>
     have HN:=hid (jg4 hlt HA.out hv);have HV:Hid (updOk (us[k].1,us[k].2)=true):=hid hv;clear hv;generalize us[k].1=p at *;generalize us[k].2=q at *;go_wp2_with fail
     refine(j7d _ _ _).mono ?_;rw[HV.out];rintro e w1 ⟨rfl,hb1⟩;go_wp2_with fail
     go_roundw
     case rel=>exact⟨k+1,hlt,by go_num,HN.out,hBA.trans (hb1.mono hBA.size)⟩
     case measure=>simp[intOf];omega
    | false=>
     have HN:=hid (jh8 k hlt hv);have HV:Hid (updOk (us[k].1,us[k].2)=false):=hid hv;clear hv;generalize us[k].1=p at *;generalize us[k].2=q at *;go_wp2_with fail
     refine(j7d _ _ _).mono ?_;rw[HV.out];rintro e w1 ⟨rfl,hb1⟩;go_wp2_with fail
     go_ret
     exact⟨j1j (by rw[HN.out]),hBA.trans (hb1.mono hBA.size)⟩
   ·go_wp2_with fail
    go_ret
    exact⟨j1j (by have:=HA.out;rw[List.take_of_length_le (by omega)]at this;rw[jnn hl this]),hB⟩
 ·have F:=hid (jno hl);go_enter Twn.func70,Tryz.ntmps70
  go_wp2_with fail
  go_ret
  exact⟨j1j (by rw[F.out]),Below.refl _ _⟩
theorem j39 (a:Option Addr)(cap:Nat)(us:List Upd)(w:World)(hm:us.length<=1099511627776)(hx:UpdsAt w a us) :
  Calls tnp 84 #[.slice a us.length cap] w λe w'=>e=.returned (.bool (logOk us))/\Below w.heap.size w w':=by
 go_enter Twn.func84,Tryz.ntmps84
 go_wp2_with fail
 go_loopw [3] (λi wr=>∃k:Nat,k<=us.length/\i=.int .i64 k/\(us.take k).all updOk=true/\Below w.heap.size w wr) (λi _=>us.length-(intOf i).toNat)
 case atStart=>exact⟨0,Nat.zero_le _,rfl,rfl,Below.refl _ _⟩
 case round=>
  obtain⟨k,hk,rfl,ha,hB⟩:=hrel;have HA:=hid ha;clear ha;by_cases hlt:k<us.length
  ·obtain⟨b,off,rfl,c0,c1⟩:=(hx.below hB).cells k hlt;have i1:(0:Int)<=(k:Int):=by omega
   have i2:(k:Int)<(us.length:Int):=by omega
   cases hv:updOk us[k]with
   | true=>
    have HN:=hid (jg4 hlt HA.out hv);have HV:Hid (updOk (us[k].1,us[k].2)=true):=hid hv;clear hv;generalize us[k].1=p at *;generalize us[k].2=q at *;go_wp2_with fail
    refine(j2k _ _ _).mono ?_;rw[HV.out];rintro e w1 ⟨rfl,hb1⟩;go_wp2_with fail
    go_roundw
    case rel=>exact⟨k+1,hlt,by go_num,HN.out,hB.trans (hb1.mono hB.size)⟩
    case measure=>simp[intOf];omega
   | false=>
    have HN:=hid (jh8 k hlt hv);have HV:Hid (updOk (us[k].1,us[k].2)=false):=hid hv;clear hv;generalize us[k].1=p at *;generalize us[k].2=q at *;go_wp2_with fail
    refine(j2k _ _ _).mono ?_;rw[HV.out];rintro e w1 ⟨rfl,hb1⟩;go_wp2_with fail
    go_ret
    exact⟨j1j (by rw[HN.out]),hB.trans (hb1.mono hB.size)⟩
  ·have HL:Hid (logOk us=decide (us.length<=12)):=hid (by
    have:=HA.out;rw[List.take_of_length_le (by omega)]at this;rw[logOk,this,Bool.and_true])
   go_wp2_with fail
   go_ret
   exact⟨j1j (by rw[HL.out];simp;omega),hB⟩
theorem j3b {α:Type}(l:List α)(k:Nat)(u:α)(h:k<l.length):(l.set k u).take (k+1)=l.take k++[u]:=by
 rw[List.take_succ_eq_append_getElem (by simpa using h),List.getElem_set_self];congr 1;apply List.ext_getElem?;intro i;simp only[List.getElem?_take,List.getElem?_set];by_cases hi:i<k
 ·rw[if_pos hi,if_pos hi,if_neg (by omega)]
 ·rw[if_neg hi,if_neg hi]
theorem j8d (g:Nat):∀(vs:List Value)(o:Nat)(w:World)(cur:List Value)(t:TypeId),w.heap[g]?=some (.cells cur.toArray t (0,0))->o+vs.length<=cur.length ->
  (w.setCells g o vs).heap[g]?=some (.cells (cur.take o++(vs++cur.drop (o+vs.length))).toArray t (0,0))/\w.grownBy (w.setCells g o vs) (some g)
 | [],o,w,cur,t,h,_=>⟨by simpa[World.setCells]using h,j1y _ _⟩
 | v::r,o,w,cur,t,h,hl=>by
  simp only[List.length_cons]at hl;have h1:(w.setCell ⟨g,o,none⟩ v).heap[g]?=some (.cells (cur.set o v).toArray t (0,0)):=by
   rw[jfc h v];simp
  obtain⟨h2,h3⟩:=j8d g r (o+1) _ _ t h1 (by simp;omega);refine⟨?_,jbt (jgy w ⟨g,o,none⟩ v) h3⟩;rw[show w.setCells g o (v::r)=(w.setCell ⟨g,o,none⟩ v).setCells g (o+1) r from rfl,h2];have e:(cur.set o v).take (o+1)++(r++(cur.set o v).drop (o+1+r.length))=cur.take o++(v::r++cur.drop (o+(v::r).length)):=by
   rw[j3b _ _ _ (by omega),List.drop_set_of_lt (by omega),List.append_assoc];simp[Nat.add_assoc,Nat.add_comm 1]
  rw[e]
theorem St.boxTo {w0 w w':World}{rs:List Res}{b:Nat}{cs cs':Array Value}{t:TypeId}(h:St w0 w (box b cs t::rs))(hg:w.grownBy w' (some b))(hh:w'.heap[b]?=some (.cells cs' t (0,0))):St w0 w' (box b cs' t::rs):=
 h.turn hg hh (λ_ h=>.inl h) (λc hc=>by cases hc;exact j98 hh)
theorem jrb {P:Program}(w:World)(dT sT ty elem:TypeId)(size g n dCap sCap:Nat)(sp:Option Addr)(cs:List Value)(cur:Array Value)(t:TypeId)
  (hu:P.underlying dT=some (.slice elem))(hs:(P.info? elem).map (·.size)=some size)(hn:cs.length=n*size)(hsrc:CellsAt w sp cs)
  (hg:w.heap[g]?=some (.cells cur t (0,0)))(hfit:cs.length<=cur.size)(h1:∀v∈cs,v.oneCell'=true) :
  (Builtin.copy_ #[dT,sT] ty #[.slice (some ⟨g,0,none⟩) n dCap,.slice sp n sCap]).run P w=.ok (goInt n) (w.setCells g 0 cs):=by
 have hc:∀j,j<cs.length->(w.cell? ⟨g,0+j,none⟩).isSome=true:=λj hj=>by
  rw[Nat.zero_add,cell_of_heap hg,Array.getElem?_eq_getElem (by omega)];rfl
 have hf:∀j,j<cs.length->w.frozen? ⟨g,0+j,none⟩=false:=λj _=>frozen_of_heap hg;have hst:=run_storeCells_cells (P:=P) g 0 cs 0 w (by simpa using hc) (by simpa using hf) h1;cases hq:P.info? elem with
 | none=>simp[hq]at hs
 | some i=>
  have hi:i.size=size:=by simpa[hq]using hs
  cases sp with
  | none=>
   have h0:cs=[]:=by
    rcases hsrc with h|⟨b,off,e,_⟩
    ·exact h
    ·cases e
   subst h0;simp at hn;simp[Builtin.copy_,run_underlying hu,Builtin.lenOf,Builtin.firstCells,sizeOf,typeInfo,hq,storeCells,World.setCells]
  | some ad=>
   have hl:(loadCells ad cs.length).run P w=.ok cs.toArray w:=by
    refine run_loadCells_list (P:=P) w ad cs λj v hj=>?_;have hlt:j<cs.length:=(List.getElem?_eq_some_iff.1 hj).1;rcases hsrc with h|⟨b,off,e,hcell⟩
    ·rw[h]at hlt;simp at hlt
    ·cases e;have e:(⟨b,off,none⟩:Addr).add j=⟨b,off+j,none⟩:=by unfold Addr.add;split<;>simp_all
     rw[e,hcell j hlt,hj]
   rw[hn]at hl;simp[Builtin.copy_,run_underlying hu,Builtin.lenOf,Builtin.firstCells,sizeOf,typeInfo,hq,hi,hl,hst]
theorem jc4 {P:Program}{w:World}{ops:Array Oper}{rest:List Oper}{o:Oper}{a:Act}{Q:Exit->Act->World->Prop}(hgd:o.guard=none)(d s:Operand)(dT sT:TypeId)
  (ho:o.op=.call { callee:=.builtin .copy,args:=#[d,s],argTypes:=#[dT,sT] })(elem:TypeId)(size:Nat)(hu:P.underlying dT=some (.slice elem))(hsz:(P.info? elem).map (·.size)=some size)
  (g n dCap sCap:Nat)(sp:Option Addr)(hd:a.eval d=.slice (some ⟨g,0,none⟩) n dCap)(hs:a.eval s=.slice sp n sCap)(cs:List Value)(cur:Array Value)(t:TypeId)(hn:cs.length=n*size)(hsrc:CellsAt w sp cs)
  (hg:w.heap[g]?=some (.cells cur t (0,0)))(hfit:cs.length<=cur.size)(h1:∀v∈cs,v.oneCell'=true)
  (h:∀w',w'.heap[g]?=some (.cells (cs++cur.toList.drop cs.length).toArray t (0,0))->w.grownBy w' (some g)->wpList P ops Q rest (a.put o.dst (goInt n)) w'):wpList P ops Q (o::rest) a w:=by
 refine wpList_plain hgd λK hK=>?_;have hrun:=jrb (P:=P) w dT sT o.type elem size g n dCap sCap sp cs cur t hu hsz hn hsrc hg hfit h1;obtain⟨k1,k2⟩:=j8d g cs 0 w cur.toList t (by simpa using hg) (by simpa using hfit);unfold Oper.wp;simp[execOp,ho,resolve,invoke,builtin,hd,hs,hrun,Result.andThen];exact hK _ _ (h _ (by simpa using k1) k2)
def cutAt (a:Option Addr)(cap k size:Nat):Option Addr:=if cap=k then a else a.map (·.add (k*size))
theorem jfu {P:Program}(t e:TypeId)(size:Nat)(a:Option Addr)(len cap k:Nat)(hu:P.underlying t=some (.slice e))(hs:(P.info? e).map (·.size)=some size)(hk:k<=len)(w:World) :
  (Instr.slice t (.slice a len cap) (some (.int .i64 k)) none none).run P w=.ok (.slice (cutAt a cap k size) (len-k) (cap-k)) w:=by
 cases hq:P.info? e with
 | none=>simp[hq]at hs
 | some i=>
  have hi:i.size=size:=by simpa[hq]using hs
  have h1:(0:Int)<=(k:Int)/\(k:Int)<=(len:Int):=by omega
  simp[Instr.slice,run_underlying hu,Instr.sliceBounds,Instr.sliceBound,asIntOf,sizeOf,typeInfo,hq,hi,hk,cutAt]
theorem j8r {w:World}{a:Option Addr}{cs:List Value}(h:CellsAt w a cs)(cap k size:Nat)(hc:cs.length<=cap*size):CellsAt w (cutAt a cap k size) (cs.drop (k*size)):=by
 unfold cutAt;by_cases h0:cap=k
 ·rw[if_pos h0];subst h0;exact .inl (List.drop_of_length_le hc)
 ·rw[if_neg h0];rcases h with rfl|⟨b,off,rfl,hcell⟩
  ·exact .inl (by simp)
  ·refine .inr ⟨b,off+k*size,?_,λj hj=>?_⟩
   ·simp[Addr.add]
   ·simp at hj;rw[Nat.add_assoc,hcell (k*size+j) (by omega),List.getElem?_drop]
theorem jki (us:List Upd)(k:Nat):(ucells us).drop (k*2)=ucells (us.drop k):=by
 induction us generalizing k with
 | nil=>simp[ucells]
 | cons u r ih=>
  cases k with
  | zero=>simp
  | succ k=>
   rw[show(k+1)*2=k*2+1+1 by omega];have e:ucells (u::r)=.int .i64 u.1::.int .i64 u.2::ucells r:=rfl;rw[e];simpa using ih k
theorem js2 {w:World}{a:Option Addr}{us:List Upd}(h:UpdsAt w a us)(cap k:Nat)(hc:us.length<=cap):UpdsAt w (cutAt a cap k 2) (us.drop k):=by
 have:=j8r h cap k 2 (by rw[j30];omega);rw[jki]at this;exact this
theorem jbw:(tnp.info? 76).map (·.size)=some 2:=by kernel_rfl
def nodeOk (id:Int)(us:List Upd)(done:Int):Bool:=decide (1<=id/\id<=99)&&logOk us&&decide (0<=done/\done<=us.length)
theorem jca {id:Int}{us:List Upd}{done:Int}(h:¬(1<=id/\id<=99)):nodeOk id us done=false:=by rw[nodeOk,decide_eq_false h];rfl
theorem jcb {id:Int}{us:List Upd}{done:Int}(h:logOk us=false):nodeOk id us done=false:=by rw[nodeOk,h,Bool.and_false];rfl
theorem jcc {id:Int}{us:List Upd}{done:Int}(h:¬(0<=done/\done<=us.length)):nodeOk id us done=false:=by rw[nodeOk,decide_eq_false h,Bool.and_false]
theorem jcd {id:Int}{us:List Upd}{done:Int}(h1:1<=id/\id<=99)(h2:logOk us=true)(h3:0<=done/\done<=us.length):nodeOk id us done=true:=by rw[nodeOk,decide_eq_true h1,h2,decide_eq_true h3];rfl
theorem j21 {id:Int}{us:List Upd}{done:Int}(h:nodeOk id us done=true):(1<=id/\id<=99)/\logOk us=true/\0<=done/\done<=us.length:=by
 rw[nodeOk,Bool.and_eq_true,Bool.and_eq_true,decide_eq_true_eq,decide_eq_true_eq]at h;exact⟨h.1.1,h.1.2,h.2⟩
theorem j38 (a:Option Addr)(cap:Nat)(id done:Int)(us:List Upd)(w:World)(hm:us.length<=1099511627776)(hx:UpdsAt w a us) :
  Calls tnp 47 #[.agg #[.int .i64 id,.slice a us.length cap,.int .i64 done]] w λe w'=>e=.returned (.bool (nodeOk id us done))/\Below w.heap.size w w':=by
 have s0:=(St.start w).alloc (.cells #[.int .i64 id,.slice a us.length cap,.int .i64 done] 60);by_cases h1:1<=id/\id<=99
 ·cases hv:logOk us with
  | false=>
   have F:=hid (jcb (id:=id) (done:=done) hv);have HX:=hid h1;have HV:=hid hv;clear h1 hv;go_enter Twn.func47,Tryz.ntmps47
   go_wp2_with fail
   refine(j5g _ _ HX.out).mono ?_;rintro e w' ⟨rfl,rfl⟩;go_wp2_with fail
   refine(j1e _ _ _ _ hm (hx.below s0.below)).mono ?_;rw[HV.out];rintro e w1 ⟨rfl,hb⟩;go_wp2_with fail
   go_ret
   exact⟨j1j (by rw[F.out]),(s0.call hb).below⟩
  | true=>
   have G:=hid (λh3=>jcd (done:=done) h1 hv h3);have B:=hid (λh3=>jcc (id:=id) (us:=us) (done:=done) h3);have HX:=hid h1;have HV:=hid hv;clear h1 hv;by_cases h2:0<=done
   ·by_cases h3:done<=us.length
    ·have FF:=hid (G.out ⟨h2,h3⟩);go_enter Twn.func47,Tryz.ntmps47
     go_wp2_with fail
     refine(j5g _ _ HX.out).mono ?_;rintro e w' ⟨rfl,rfl⟩;go_wp2_with fail
     refine(j1e _ _ _ _ hm (hx.below s0.below)).mono ?_;rw[HV.out];rintro e w1 ⟨rfl,hb⟩;have s1:=s0.call hb;obtain⟨c1,_⟩:=s1.cells;go_wp2_with fail
     go_ret
     exact⟨j1j (by rw[FF.out]<;>(simp;omega)),s1.below⟩
    ·have FF:=hid (B.out (λh=>h3 h.2));go_enter Twn.func47,Tryz.ntmps47
     go_wp2_with fail
     refine(j5g _ _ HX.out).mono ?_;rintro e w' ⟨rfl,rfl⟩;go_wp2_with fail
     refine(j1e _ _ _ _ hm (hx.below s0.below)).mono ?_;rw[HV.out];rintro e w1 ⟨rfl,hb⟩;have s1:=s0.call hb;obtain⟨c1,_⟩:=s1.cells;go_wp2_with fail
     go_ret
     exact⟨j1j (by rw[FF.out]<;>(simp;omega)),s1.below⟩
   ·have FF:=hid (B.out (λh=>h2 h.1));go_enter Twn.func47,Tryz.ntmps47
    go_wp2_with fail
    refine(j5g _ _ HX.out).mono ?_;rintro e w' ⟨rfl,rfl⟩;go_wp2_with fail
    refine(j1e _ _ _ _ hm (hx.below s0.below)).mono ?_;rw[HV.out];rintro e w1 ⟨rfl,hb⟩;have s1:=s0.call hb;obtain⟨c1,_⟩:=s1.cells;go_wp2_with fail
    go_ret
    exact⟨j1j (by rw[FF.out]<;>(simp;omega)),s1.below⟩
 ·have F:=hid (jca (us:=us) (done:=done) h1);have HX:=hid h1;clear h1;go_enter Twn.func47,Tryz.ntmps47
  go_wp2_with fail
  refine(jn7 _ _ HX.out).mono ?_;rintro e w' ⟨rfl,rfl⟩;go_wp2_with fail
  go_ret
  exact⟨j1j (by rw[F.out]),s0.below⟩
theorem j27 (a:Option Addr)(cap:Nat)(id done:Int)(us:List Upd)(w:World)(hm:us.length<=1099511627776)(hx:UpdsAt w a us) :
  Calls tnp 56 #[.agg #[.int .i64 id,.slice a us.length cap,.int .i64 done]] w λe w'=>e=.returned (.bool (nodeOk id us done))/\Below w.heap.size w w':=by
 have s0:=(St.start w).alloc (.cells #[.int .i64 id,.slice a us.length cap,.int .i64 done] 60);by_cases h1:1<=id/\id<=99
 ·cases hv:logOk us with
  | false=>
   have F:=hid (jcb (id:=id) (done:=done) hv);have HX:=hid h1;have HV:=hid hv;clear h1 hv;go_enter Twn.func56,Tryz.ntmps56
   go_wp2_with fail
   refine(j2f _ _ _ _ HX.out).mono ?_;rintro e w' ⟨rfl,rfl⟩;go_wp2_with fail
   refine(j39 _ _ _ _ hm (hx.below s0.below)).mono ?_;rw[HV.out];rintro e w1 ⟨rfl,hb⟩;go_wp2_with fail
   go_ret
   exact⟨j1j (by rw[F.out]),(s0.call hb).below⟩
  | true=>
   have G:=hid (λh3=>jcd (done:=done) h1 hv h3);have B:=hid (λh3=>jcc (id:=id) (us:=us) (done:=done) h3);have HX:=hid h1;have HV:=hid hv;clear h1 hv;by_cases h2:0<=done/\done<=us.length
   ·have HY:=hid h2;clear h2;go_enter Twn.func56,Tryz.ntmps56
    go_wp2_with fail
    refine(j2f _ _ _ _ HX.out).mono ?_;rintro e w' ⟨rfl,rfl⟩;go_wp2_with fail
    refine(j39 _ _ _ _ hm (hx.below s0.below)).mono ?_;rw[HV.out];rintro e w1 ⟨rfl,hb⟩;have s1:=s0.call hb;obtain⟨c1,_⟩:=s1.cells;go_wp2_with fail
    refine(j2f _ _ _ _ HY.out).mono ?_;rintro e w' ⟨rfl,rfl⟩;go_wp2_with fail
    go_ret
    exact⟨j1j (by rw[G.out HY.out]),s1.below⟩
   ·have HY:=hid h2;clear h2;go_enter Twn.func56,Tryz.ntmps56
    go_wp2_with fail
    refine(j2f _ _ _ _ HX.out).mono ?_;rintro e w' ⟨rfl,rfl⟩;go_wp2_with fail
    refine(j39 _ _ _ _ hm (hx.below s0.below)).mono ?_;rw[HV.out];rintro e w1 ⟨rfl,hb⟩;have s1:=s0.call hb;obtain⟨c1,_⟩:=s1.cells;go_wp2_with fail
    refine(j63 _ _ _ _ HY.out).mono ?_;rintro e w' ⟨rfl,rfl⟩;go_wp2_with fail
    go_ret
    exact⟨j1j (by rw[B.out HY.out]),s1.below⟩
 ·have F:=hid (jca (us:=us) (done:=done) h1);have HX:=hid h1;clear h1;go_enter Twn.func56,Tryz.ntmps56
  go_wp2_with fail
  refine(j63 _ _ _ _ HX.out).mono ?_;rintro e w' ⟨rfl,rfl⟩;go_wp2_with fail
  go_ret
  exact⟨j1j (by rw[F.out]),s0.below⟩
theorem jeq (us:List Upd):∀v∈ucells us,v.oneCell'=true:=by
 intro v hv;simp only[ucells,List.mem_flatMap]at hv;obtain⟨u,_,hu⟩:=hv;simp at hu;rcases hu with rfl|rfl<;>rfl
theorem j59 (a:Option Addr)(n cap:Nat)(us:List Upd)(w:World)(hn:n=us.length)(hm:us.length<=2097152)(hx:UpdsAt w a us) :
  Calls tnp 120 #[.slice a n cap] w λe w'=>∃g,e=.returned (.slice (some ⟨g,0,none⟩) n n)/\St w w' [row (.slice (some ⟨g,0,none⟩) n n) 76 2 n (ucells us)]:=by
 subst hn;obtain⟨ht,i,z,hi,hz,hsize,hby,hzs,hsz⟩:=j5c;obtain⟨wm,hr,ho,hg⟩:=run_makeSlice_full (P:=tnp) w w.heap.size 58 76 i z 2 ht hi hz hsize .i64 .i64 us.length (by omega) (by rw[hby];omega) (by unfold maxLen;omega) (Nat.le_refl _);rcases ho.2 with⟨e,_⟩|⟨g',cap',cur,e,_,hh,_,_,hcs,_⟩
 ·simp at e
 cases e;have hsrc:=hx.below (j72 hg);have hfit:(ucells us).length<=cur.size:=by rw[j30,hcs];omega
 have s0:St w wm (box w.heap.size cur 76::[]):=(St.start w).add hg hh (λb hb=>by cases hb;exact ho.lt _ rfl);have UL:=hid (j30 us);have HC:=hid hcs;have hcl:us.length*2<=cur.size:=by omega
 clear ho hg hi hz hsize hby hzs hsz ht hcs;go_enter Twn.func120,Tryz.ntmps120
 go_wp2_with (refine jc4 (by rfl) (.tmp 7) (.tmp 8) 58 58 (by rfl) 76 2 Twn.underlying58 jbw w.heap.size us.length us.length cap a (by rfl) (by rfl) (ucells us) cur 76 UL.out hsrc hh hfit (jeq us) ?_)
 intro w' hh' hg';have s1:=s0.boxTo hg' hh';have e:(ucells us++List.drop (ucells us).length cur.toList)=ucells us:=by
  rw[List.drop_of_length_le (by rw[UL.out,Array.length_toList,HC.out];exact Nat.le_refl _),List.append_nil]
 rw[e]at s1;have s2:=s1.madeRow 2 us.length (by simp[UL.out]) (by unfold maxLen;omega) us.length (Nat.le_refl _);have e2:(ucells us).toArray.toList.take (us.length*2)=ucells us:=by
  rw[List.take_of_length_le (by simp[UL.out])]
 rw[e2]at s2;clear hh' hg' s1 s0 e e2 hsrc hh hr;go_wp2_with fail
 go_ret
 exact⟨_,rfl,s2⟩
end Go.Proofs.T
