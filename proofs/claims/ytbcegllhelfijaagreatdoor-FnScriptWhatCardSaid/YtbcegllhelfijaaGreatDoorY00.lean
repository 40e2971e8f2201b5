/-
  A part of the proof.
-/
import Derived.Conc.Beside
set_option linter.all false
set_option maxRecDepth 100000
set_option maxHeartbeats 8000000
namespace Go.Proofs.Mn
open Go Go.Conc
class Atom where
 t:TypeId
 v:Value
variable [Atom]
def FnOk:Fn->Prop
 | .yield _|.methodOf _ _=>False
 | _=>True
inductive CV (X:Nat->Prop):Value->Prop
 | bool {b:Bool}:CV X (.bool b)
 | int {k:IntKind} {n:Int}:CV X (.int k n)
 | float {k:FloatKind} {n:Nat}:CV X (.float k n)
 | complex {k:FloatKind} {a b:Nat}:CV X (.complex k a b)
 | string {s:ByteArray}:CV X (.string s)
 | pointer {a:Option Addr}:(∀x,a=some x->¬X x.block)->CV X (.pointer a)
 | slice {a:Option Addr} {l c:Nat}:(∀x,a=some x->¬X x.block)->CV X (.slice a l c)
 | map {r:Option Nat}:(∀x,r=some x->¬X x)->CV X (.map r)
 | chan {r:Option Nat}:(∀x,r=some x->¬X x)->CV X (.chan r)
 | func {fn:Fn} {first cap:Array Value}:FnOk fn->(∀v∈first,CV X v)->(∀v∈cap,CV X v)->CV X (.func fn first cap)
 | nilFunc:CV X .nilFunc
 | iface {t:TypeId} {v:Value}:t≠Atom.t->CV X v->CV X (.iface t v)
 | atom:CV X (.iface Atom.t Atom.v)
 | nilIface:CV X .nilIface
 | agg {cs:Array Value}:(∀v∈cs,CV X v)->CV X (.agg cs)
 | tuple {cs:Array Value}:(∀v∈cs,CV X v)->CV X (.tuple cs)
def CO (X:Nat->Prop):Obj->Prop
 | .cells c _ _=>∀v∈c,CV X v
 | .view a _=>¬X a.block
 | .number a _=>¬X a.block
 | .map es _=>∀e∈es,CV X e.key/\CV X e.val
 | .chan _ buf _ _ _ _=>∀v∈buf,CV X v
 | .stringIter _ _=>True
 | .mapIter m _ _ _=>∀r,m=some r->¬X r
 | .finalizers _ _=>True
 | .loop _|.deferred _|.coro _|.pending _ _=>False
structure CW (X:Nat->Prop)(w:World):Prop where
 obj:∀b o,w.heap[b]?=some o->¬X b->CO X o
structure CWd (X:Nat->Prop)(w:World):Prop extends CW X w where
 dom:∀b,X b->b<w.heap.size
class Stays where
 K:Nat->Prop
 o:Nat->Option Obj
abbrev Stays.none:Stays:=⟨λ_=>False,λ_=>.none⟩
structure Agree [Stays](X:Nat->Prop)(w w':World):Prop where
 tape:w'.tape=w.tape
 drawn:w'.drawn=w.drawn
 os:w'.os=w.os
 output:w'.output=w.output
 size:w'.heap.size=w.heap.size
 block:∀b,¬X b->w'.heap[b]?=w.heap[b]?
 keep:∀b,Stays.K b->X b/\(Stays.o b).isSome=true/\w'.heap[b]?=Stays.o b
theorem Agree.refl [Stays](X:Nat->Prop)(w:World)(hk:∀b,Stays.K b->X b/\(Stays.o b).isSome=true/\w.heap[b]?=Stays.o b):Agree X w w:=⟨rfl,rfl,rfl,rfl,rfl,λ_ _=>rfl,hk⟩
theorem jby {hp:Array Obj}{c:Nat}{o:Option Obj}(h2:o.isSome=true)(h3:hp[c]?=o):c<hp.size:=by
 rcases Nat.lt_or_ge c hp.size with hl|hl
 ·exact hl
 ·rw[Array.getElem?_eq_none hl]at h3;rw[<- h3]at h2;cases h2
theorem Agree.same (X:Nat->Prop)(w:World):letI:Stays:=Stays.none;Agree X w w:=letI:Stays:=Stays.none;Agree.refl X w (λ_ h=>False.elim h)
def CH (X:Nat->Prop):Halt->Prop
 | .panic v=>CV X v
 | _=>False
def Dead (h:Halt):Prop:=(∃u,h=.unsupported u/\∀g,u≠.initOrder g)\/∃s,h=.stuck s
inductive Cl (P' P:Program)(X:Nat->Prop){α:Type}(Q:α->Prop):Sem α->Sem α->Prop
 | pure {a:α}:Q a->Cl P' P X Q (.pure a) (.pure a)
 | load {m:Mode} {a:Addr} {k k':Value->Sem α}:¬X a.block->(∀v,CV X v->Cl P' P X Q (k v) (k' v))->Cl P' P X Q (.load m a k) (.load m a k')
 | store {m:Mode} {a:Addr} {v:Value} {k k':Sem α}:¬X a.block->CV X v->Cl P' P X Q k k'->Cl P' P X Q (.store m a v k) (.store m a v k')
 | new {o:Obj} {k k':Nat->Sem α}:CO X o->(∀r,¬X r->Cl P' P X Q (k r) (k' r))->Cl P' P X Q (.new o k) (.new o k')
 | shape {r:Nat} {k k':Option (TypeId×Nat)->Sem α}:¬X r->(∀s,Cl P' P X Q (k s) (k' s))->Cl P' P X Q (.shape r k) (.shape r k')
 | freeze {a:Addr} {n:Nat} {k k':Sem α}:¬X a.block->Cl P' P X Q k k'->Cl P' P X Q (.freeze a n k) (.freeze a n k')
 | frozen {a:Addr} {k k':Bool->Sem α}:¬X a.block->(∀b,Cl P' P X Q (k b) (k' b))->Cl P' P X Q (.frozen a k) (.frozen a k')
 | getObj {r:Nat} {k k':Obj->Sem α}:¬X r->(∀o,CO X o->Cl P' P X Q (k o) (k' o))->Cl P' P X Q (.getObj r k) (.getObj r k')
 | setObj {r:Nat} {o:Obj} {k k':Sem α}:¬X r->CO X o->o.isChan=false->Cl P' P X Q k k'->Cl P' P X Q (.setObj r o k) (.setObj r o k')
 | choose {q:Question} {k k':Nat->Sem α}:(∀n,Cl P' P X Q (k n) (k' n))->Cl P' P X Q (.choose q k) (.choose q k')
 | env {k k':SysRet->Sem α}:(∀r,Cl P' P X Q (k r) (k' r))->Cl P' P X Q (.sys .env k) (.sys .env k')
 | program {k k':Program->Sem α}:Cl P' P X Q (k P') (k' P)->Cl P' P X Q (.program k) (.program k')
 | mark {m:Mark} {k k':Sem α}:(m=.noRoom\/∃f,m=.extern f)->Cl P' P X Q k k'->Cl P' P X Q (.mark m k) (.mark m k')
 | halt {h:Halt}:CH X h->Cl P' P X Q (.halt h) (.halt h)
 | dead {h:Halt} {t:Sem α}:Dead h->Cl P' P X Q (.halt h) t
 | deadM {m:Mark} {h:Halt} {t:Sem α}:Dead h->Cl P' P X Q (.mark m (.halt h)) t
section
variable {P' P:Program}{X:Nat->Prop}{α β:Type}{Q Q':α->Prop}{R:β->Prop}
theorem Cl.mono {t t':Sem α}(h:Cl P' P X Q t t')(hq:∀a,Q a->Q' a):Cl P' P X Q' t t':=by
 induction h with
 | pure h=>exact .pure (hq _ h)
 | load h _ ih=>exact .load h ih
 | store h1 h2 _ ih=>exact .store h1 h2 ih
 | new h _ ih=>exact .new h ih
 | shape h _ ih=>exact .shape h ih
 | freeze h _ ih=>exact .freeze h ih
 | frozen h _ ih=>exact .frozen h ih
 | getObj h _ ih=>exact .getObj h ih
 | setObj h1 h2 h3 _ ih=>exact .setObj h1 h2 h3 ih
 | choose _ ih=>exact .choose ih
 | env _ ih=>exact .env ih
 | program _ ih=>exact .program ih
 | mark h _ ih=>exact .mark h ih
 | halt h=>exact .halt h
 | dead h=>exact .dead h
 | deadM h=>exact .deadM h
theorem Cl.bind' {t t':Sem α}{f f':α->Sem β}(h:Cl P' P X Q t t')(hf:∀a,Q a->Cl P' P X R (f a) (f' a)):Cl P' P X R (t.bind f) (t'.bind f'):=by
 induction h with
 | pure h=>exact hf _ h
 | load h _ ih=>exact .load h ih
 | store h1 h2 _ ih=>exact .store h1 h2 ih
 | new h _ ih=>exact .new h ih
 | shape h _ ih=>exact .shape h ih
 | freeze h _ ih=>exact .freeze h ih
 | frozen h _ ih=>exact .frozen h ih
 | getObj h _ ih=>exact .getObj h ih
 | setObj h1 h2 h3 _ ih=>exact .setObj h1 h2 h3 ih
 | choose _ ih=>exact .choose ih
 | env _ ih=>exact .env ih
 | program _ ih=>exact .program ih
 | mark h _ ih=>exact .mark h ih
 | halt h=>exact .halt h
 | dead h=>exact .dead h
 | deadM h=>exact .deadM h
theorem Cl.bind {t t':Sem α}{f f':α->Sem β}(h:Cl P' P X Q t t')(hf:∀a,Q a->Cl P' P X R (f a) (f' a)):Cl P' P X R (t >>= f) (t' >>= f'):=h.bind' hf
end
section
variable {X:Nat->Prop}{w w':World}{a:Addr}{v:Value}{o:Obj}{r:Nat}
theorem Agree.cell [Stays](h:Agree X w w')(ha:¬X a.block):w'.cell? a=w.cell? a:=by simp only[World.cell?,h.block _ ha]
theorem Agree.shape [Stays](h:Agree X w w')(hr:¬X r):w'.shape? r=w.shape? r:=by simp only[World.shape?,h.block _ hr]
theorem Agree.frozen [Stays](h:Agree X w w')(ha:¬X a.block):w'.frozen? a=w.frozen? a:=by simp only[World.frozen?,h.block _ ha]
theorem Agree.noCell [Stays](h:Agree X w w')(ha:¬X a.block)(s:String):w'.noCell a s=w.noCell a s:=by simp only[World.noCell,h.block _ ha]
theorem getElem?_modify' (hp:Array Obj)(i j:Nat)(f:Obj->Obj):(hp.modify i f)[j]?=if i=j then(hp[j]?).map f else hp[j]?:=by
 rw[Array.getElem?_modify]
theorem Agree.modify [Stays](h:Agree X w w')(b:Nat)(hb:¬X b)(f:Obj->Obj):Agree X { w with heap:=w.heap.modify b f } { w' with heap:=w'.heap.modify b f }:=
 ⟨h.tape,h.drawn,h.os,h.output,by simp[h.size],λc hc=>by simp only[getElem?_modify',h.block _ hc],λc hc=>by
  obtain⟨h1,h2,h3⟩:=h.keep c hc;refine⟨h1,h2,?_⟩;rw[getElem?_modify',if_neg (λe=>hb (by rw[e];exact h1)),h3]⟩
theorem Agree.set [Stays](h:Agree X w w')(b:Nat)(hb:¬X b)(o:Obj):Agree X { w with heap:=w.heap.setIfInBounds b o } { w' with heap:=w'.heap.setIfInBounds b o }:=
 ⟨h.tape,h.drawn,h.os,h.output,by simp[h.size],λc hc=>by simp only[Array.getElem?_setIfInBounds,h.block _ hc,h.size],λc hc=>by
  obtain⟨h1,h2,h3⟩:=h.keep c hc;refine⟨h1,h2,?_⟩;rw[Array.getElem?_setIfInBounds_ne (λe=>hb (by rw[e];exact h1)),h3]⟩
theorem Agree.push [Stays](h:Agree X w w')(o:Obj):Agree X { w with heap:=w.heap.push o } { w' with heap:=w'.heap.push o }:=
 ⟨h.tape,h.drawn,h.os,h.output,by simp[h.size],λc hc=>by simp only[Array.getElem?_push,h.block _ hc,h.size],λc hc=>by
  obtain⟨h1,h2,h3⟩:=h.keep c hc;refine⟨h1,h2,?_⟩;have hlt:c<w'.heap.size:=by
   rcases Nat.lt_or_ge c w'.heap.size with hl|hl
   ·exact hl
   ·rw[Array.getElem?_eq_none hl]at h3;rw[<- h3]at h2;cases h2
  rw[Array.getElem?_push,if_neg (Nat.ne_of_lt hlt),h3]⟩
theorem Agree.setCell [Stays](h:Agree X w w')(ha:¬X a.block):Agree X (w.setCell a v) (w'.setCell a v):=h.modify _ ha _
theorem Agree.freeze [Stays](h:Agree X w w')(ha:¬X a.block)(n:Nat):Agree X (w.freeze a n) (w'.freeze a n):=by
 unfold World.freeze;split
 ·exact h
 ·exact h.modify _ ha _
theorem CW.modify (h:CW X w){b:Nat}{f:Obj->Obj}(hf:∀o,CO X o->CO X (f o)):CW X { w with heap:=w.heap.modify b f }:=by
 refine⟨λc o ho hc=>?_⟩;simp only[getElem?_modify']at ho;split at ho
 ·obtain⟨o',ho',rfl⟩:=Option.map_eq_some_iff.1 ho;exact hf _ (h.obj c o' ho' hc)
 ·exact h.obj c o ho hc
theorem CW.set (h:CW X w){b:Nat}(ho:CO X o):CW X { w with heap:=w.heap.setIfInBounds b o }:=by
 refine⟨λc o' ho' hc=>?_⟩;simp only[Array.getElem?_setIfInBounds]at ho';split at ho'
 ·split at ho'
  ·cases ho';exact ho
  ·cases ho'
 ·exact h.obj c o' ho' hc
theorem CW.push (h:CW X w)(ho:CO X o):CW X { w with heap:=w.heap.push o }:=by
 refine⟨λc o' ho' hc=>?_⟩;simp only[Array.getElem?_push]at ho';split at ho'
 ·cases ho';exact ho
 ·exact h.obj c o' ho' hc
theorem CW.setCell (h:CW X w)(hv:CV X v):CW X (w.setCell a v):=by
 refine h.modify λo ho=>?_;cases o with
 | cells c e f=>
  simp only[CO]at ho ⊢;split
  ·exact ho
  ·intro x hx;rcases Array.mem_or_eq_of_mem_setIfInBounds hx with h1|h1
   ·exact ho x h1
   ·rw[h1];exact hv
 | _=>exact ho
theorem CW.freeze (h:CW X w)(n:Nat):CW X (w.freeze a n):=by
 unfold World.freeze;split
 ·exact h
 ·refine h.modify λo ho=>?_;cases o with
  | cells c e f=>exact ho
  | _=>exact ho
theorem CW.cell (h:CW X w)(ha:¬X a.block)(hc:w.cell? a=some v):CV X v/\a.block<w.heap.size:=by
 unfold World.cell? at hc;split at hc
 ·rename_i c e f he
  split at hc
  ·cases hc
  ·exact⟨h.obj _ _ he ha v (Array.mem_of_getElem? hc),(Array.getElem?_eq_some_iff.1 he).1⟩
 ·cases hc
theorem CWd.fresh (h:CWd X w):¬X w.heap.size:=λhx=>Nat.lt_irrefl _ (h.dom _ hx)
theorem CWd.push (h:CWd X w)(ho:CO X o):CWd X { w with heap:=w.heap.push o }:=⟨h.toCW.push ho,λb hb=>by have:=h.dom b hb;simp;omega⟩
theorem CWd.set (h:CWd X w){b:Nat}(ho:CO X o):CWd X { w with heap:=w.heap.setIfInBounds b o }:=⟨h.toCW.set ho,λb hb=>by simpa using h.dom b hb⟩
theorem CWd.setCell (h:CWd X w)(hv:CV X v):CWd X (w.setCell a v):=⟨h.toCW.setCell hv,λb hb=>by simpa[World.setCell]using h.dom b hb⟩
theorem CWd.freeze (h:CWd X w)(n:Nat):CWd X (w.freeze a n):=⟨h.toCW.freeze n,λb hb=>by
 have:=h.dom b hb;unfold World.freeze;split<;>simp_all⟩
theorem CWd.cell (h:CWd X w)(ha:¬X a.block)(hc:w.cell? a=some v):CV X v/\a.block<w.heap.size:=h.toCW.cell ha hc
theorem CWd.grow (h:CWd X w){w2:World}(h2:CW X w2)(hs:w.heap.size<=w2.heap.size):CWd X w2:=⟨h2,λb hb=>Nat.lt_of_lt_of_le (h.dom b hb) hs⟩
variable {Y:Nat->Prop}
theorem CV.mono (hXY:∀b,Y b->X b)(h:CV X v):CV Y v:=by
 induction h with
 | bool=>exact .bool
 | int=>exact .int
 | float=>exact .float
 | complex=>exact .complex
 | string=>exact .string
 | pointer h=>exact .pointer λx e hx=>h x e (hXY _ hx)
 | slice h=>exact .slice λx e hx=>h x e (hXY _ hx)
 | map h=>exact .map λx e hx=>h x e (hXY _ hx)
 | chan h=>exact .chan λx e hx=>h x e (hXY _ hx)
 | func h _ _ ih1 ih2=>exact .func h ih1 ih2
 | nilFunc=>exact .nilFunc
 | iface h _ ih=>exact .iface h ih
 | atom=>exact .atom
 | nilIface=>exact .nilIface
 | agg _ ih=>exact .agg ih
 | tuple _ ih=>exact .tuple ih
theorem CO.mono (hXY:∀b,Y b->X b)(h:CO X o):CO Y o:=by
 cases o with
 | cells c e f=>exact λv hv=>(h v hv).mono hXY
 | view a t=>exact λhx=>h (hXY _ hx)
 | number a t=>exact λhx=>h (hXY _ hx)
 | map es t=>exact λe he=>⟨(h e he).1.mono hXY,(h e he).2.mono hXY⟩
 | chan _ buf _ _ _ _=>exact λv hv=>(h v hv).mono hXY
 | mapIter m _ _ _=>exact λr e hx=>h r e (hXY _ hx)
 | stringIter _ _=>trivial
 | finalizers _ _=>trivial
 | _=>exact h.elim
def cut (X:Nat->Prop)(w:World)(b:Nat):Prop:=X b/\b<w.heap.size
theorem jj3:∀b,cut X w b->X b:=λ_ h=>h.1
theorem CW.cutW (h:CW X w):CWd (cut X w) w:=
 ⟨⟨λb o ho hb=>by
  have hlt:=(Array.getElem?_eq_some_iff.1 ho).1;exact(h.obj b o ho λhx=>hb ⟨hx,hlt⟩).mono jj3⟩,λ_ h=>h.2⟩
theorem jx3 (h:∀b,X b->b<w.heap.size):cut X w=X:=by
 funext b;exact propext ⟨λh=>h.1,λhx=>⟨hx,h b hx⟩⟩
def j9a (X:Nat->Prop)(n m:Nat)(b:Nat):Prop:=X b/\(b<n\/m<=b)
theorem jli {n m:Nat}:∀b,j9a X n m b->X b:=λ_ h=>h.1
theorem Agree.cutA [Stays](h:Agree X w w'):Agree (cut X w) w w':=
 ⟨h.tape,h.drawn,h.os,h.output,h.size,λb hb=>by
  by_cases hx:X b
  ·have hge:w.heap.size<=b:=Nat.le_of_not_lt λhlt=>hb ⟨hx,hlt⟩;rw[Array.getElem?_eq_none hge,Array.getElem?_eq_none (by rw[h.size];exact hge)]
  ·exact h.block b hx,λb hb=>by
  obtain⟨h1,h2,h3⟩:=h.keep b hb;exact⟨⟨h1,by rw[<- h.size];exact jby h2 h3⟩,h2,h3⟩⟩
theorem CW.openW (h:CW X w)(m:Nat):CW (j9a X w.heap.size m) w:=
 ⟨λb o ho hb=>by
  have hlt:=(Array.getElem?_eq_some_iff.1 ho).1;exact(h.obj b o ho λhx=>hb ⟨hx,.inl hlt⟩).mono jli⟩
theorem Agree.openA [Stays](h:Agree X w w')(m:Nat):Agree (j9a X w.heap.size m) w w':=
 ⟨h.tape,h.drawn,h.os,h.output,h.size,λb hb=>by
  by_cases hx:X b
  ·have hge:w.heap.size<=b:=by
    apply Nat.le_of_not_lt;exact λhlt=>hb ⟨hx,.inl hlt⟩
   rw[Array.getElem?_eq_none hge,Array.getElem?_eq_none (by rw[h.size];exact hge)]
  ·exact h.block b hx,λb hb=>by
  obtain⟨h1,h2,h3⟩:=h.keep b hb;exact⟨⟨h1,.inl (by rw[<- h.size];exact jby h2 h3)⟩,h2,h3⟩⟩
end
end Go.Proofs.Mn
namespace Go.Proofs.Mn
open Go Go.Conc
variable [Atom]
theorem tabled {β:Sort _}(f:Program->β)(hf:∀T F F',f ⟨T,F⟩=f ⟨T,F'⟩){P' P:Program}(h:P'.toTables=P.toTables):f P'=f P:=by
 obtain⟨T,F⟩:=P;obtain⟨T',F'⟩:=P';cases h;exact hf _ _ _
section
variable {P' P:Program}(hT:P'.toTables=P.toTables)
include hT
theorem ji9:P'.info?=P.info?:=tabled (λp=>p.info?) (λ_ _ _=>rfl) hT
theorem j1d:P'.underlying=P.underlying:=tabled (λp=>p.underlying) (λ_ _ _=>rfl) hT
theorem j2b:P'.cellsOf=P.cellsOf:=tabled (λp=>p.cellsOf) (λ_ _ _=>rfl) hT
theorem j3r:P'.bytesOf=P.bytesOf:=tabled (λp=>p.bytesOf) (λ_ _ _=>rfl) hT
theorem j2w:P'.depth=P.depth:=tabled (λp=>p.depth) (λ_ _ _=>rfl) hT
theorem j4t:P'.underlyingId=P.underlyingId:=tabled (λp=>p.underlyingId) (λ_ _ _=>rfl) hT
theorem j69:P'.globals=P.globals:=tabled (λp=>p.globals) (λ_ _ _=>rfl) hT
theorem j9p:P'.cutTypes=P.cutTypes:=tabled (λp=>p.cutTypes) (λ_ _ _=>rfl) hT
theorem t_rt:P'.rt=P.rt:=tabled (λp=>p.rt) (λ_ _ _=>rfl) hT
theorem jrn:P'.types=P.types:=tabled (λp=>p.types) (λ_ _ _=>rfl) hT
theorem jrm:P'.godebug=P.godebug:=tabled (λp=>p.godebug) (λ_ _ _=>rfl) hT
theorem jrl:P'.follows=P.follows:=tabled (λp=>p.follows) (λ_ _ _=>rfl) hT
theorem j4m:byteOfCell P'=byteOfCell P:=by
 funext d;induction d with
 | zero=>funext t off;simp only[byteOfCell]
 | succ d ih=>funext t off;simp only[byteOfCell,ih,j1d hT,j2b hT,j3r hT]
theorem jfx:cellHolding P'=cellHolding P:=by
 funext d;induction d with
 | zero=>funext t off;simp only[cellHolding]
 | succ d ih=>funext t off;simp only[cellHolding,ih,j1d hT,j2b hT,j3r hT]
theorem jkb:plainCell P'=plainCell P:=by
 funext d;induction d with
 | zero=>funext t off;simp only[plainCell]
 | succ d ih=>funext t off;simp only[plainCell,ih,j1d hT,j2b hT]
theorem jvv:tight P'=tight P:=by
 funext d;induction d with
 | zero=>funext t;simp only[tight]
 | succ d ih=>funext t;simp only[tight,ih,j1d hT,j3r hT]
theorem jrk:P'.alikeButTags=P.alikeButTags:=by
 funext d;induction d with
 | zero=>funext t u;simp only[Program.alikeButTags]
 | succ d ih=>funext t u;simp only[Program.alikeButTags,ih,ji9 hT]
theorem jkd:P'.stoodInAs=P.stoodInAs:=by
 funext t;simp only[Program.stoodInAs,j1d hT,j9p hT,jrk hT,j2w hT,j4t hT]
theorem j3a:P'.stoodInHeld=P.stoodInHeld:=by
 funext t;simp only[Program.stoodInHeld,jkd hT,ji9 hT]
theorem jdl:P'.holdsStoodIn=P.holdsStoodIn:=by
 funext d;induction d with
 | zero=>funext t;simp only[Program.holdsStoodIn]
 | succ d ih=>funext t;simp only[Program.holdsStoodIn,ih,j1d hT,j3a hT]
theorem jtx:P'.ownRow=P.ownRow:=tabled (λp=>p.ownRow) (λ_ _ _=>rfl) hT
theorem jo5:P'.packedAs=P.packedAs:=by
 funext t;simp only[Program.packedAs,j1d hT,j9p hT,jrk hT,j2w hT,j4t hT,ji9 hT,jtx hT]
theorem jlq:P'.packed=P.packed:=by
 funext t;simp only[Program.packed,jo5 hT]
theorem j8n:P'.holdsPacked=P.holdsPacked:=by
 funext d;induction d with
 | zero=>funext t;simp only[Program.holdsPacked]
 | succ d ih=>funext t;simp only[Program.holdsPacked,ih,j1d hT,jlq hT]
theorem jia:sameLayout P'=sameLayout P:=by
 funext d;induction d with
 | zero=>funext t u;simp only[sameLayout]
 | succ d ih=>funext t u;simp only[sameLayout,ih,j1d hT,j4t hT,j3a hT]
theorem jvu (fits:TypeId->Bool):rowAt P' fits=rowAt P fits:=by
 funext d;induction d with
 | zero=>funext e c o n;simp only[rowAt]
 | succ d ih=>funext e c o n;simp only[rowAt,ih,j1d hT,j2b hT,j3a hT]
theorem jtw:liesAt P'=liesAt P:=by
 funext d;induction d with
 | zero=>funext e c o u n;simp only[liesAt]
 | succ d ih=>funext e c o u n;simp only[liesAt,ih,j1d hT,jvu hT,j2w hT,jia hT]
theorem ji8:cellOfByte P'=cellOfByte P:=by
 funext d;induction d with
 | zero=>funext t b;simp only[cellOfByte]
 | succ d ih=>funext t b;simp only[cellOfByte,ih,j1d hT,j3r hT,j2b hT]
theorem j8l:cellAtBytes P'=cellAtBytes P:=by
 funext d e c o b;simp only[cellAtBytes,j2b hT,j3r hT,j4m hT,ji8 hT]
theorem j8m:P'.eqGuardType=P.eqGuardType:=by
 funext d;induction d with
 | zero=>funext t;simp only[Program.eqGuardType]
 | succ d ih=>funext t;simp only[Program.eqGuardType,ih,j1d hT]
theorem jkc:seenCells P'=seenCells P:=by
 funext c e f;induction f with
 | zero=>funext x s;simp only[seenCells]
 | succ f ih=>funext x s;simp only[seenCells,ih,j3r hT,j2b hT,jfx hT,j2w hT]
theorem juq {w w':World}{a:Addr}(hb:w'.heap[a.block]?=w.heap[a.block]?)(u:TypeId)(k:Addr)(b:Bool):World.seen P' w' a u k b=World.seen P w a u k b:=by
 simp only[World.seen,jkb hT,j4m hT,j2w hT,j2b hT,j3r hT,jkc hT,hb]
theorem jo6 {w w':World}{a:Addr}(hb:w'.heap[a.block]?=w.heap[a.block]?)(u:TypeId)(k:Addr)(b:Bool):World.viewLoad P' w' a u k b=World.viewLoad P w a u k b:=by
 simp only[World.viewLoad,juq hT hb]
end
end Go.Proofs.Mn
namespace Go.Proofs.Mn
open Go Go.Conc
variable [Atom]
def EvC (X:Nat->Prop)(w:World)(e:Event):Prop:=
 (∃a,e.loc=.cell a/\¬X a.block/\a.block<w.heap.size)\/(∃r,e.loc=.obj r/\¬X r/\r<w.heap.size/\(e.write=true->e.sync=false))\/e.loc=.output\/e.loc=.mark .noRoom\/∃f,e.loc=.mark (.extern f)
def Ends [Stays](X:Nat->Prop){α:Type}(Q:α->Prop)(es:Array Event)(s0:Nat):Result α×Array Event->Result α×Array Event->Prop
 | (.ok a w,es1),r=>(∀b,s0<=b->b<w.heap.size->¬X b)->∃w' new,r=(.ok a w',es1)/\es1=es++new/\Q a/\Agree X w w'/\CW X w/\s0<=w.heap.size/\∀e∈new,EvC X w e
 | (.halt h w,es1),r=>Dead h\/((∀b,s0<=b->b<w.heap.size->¬X b)->∃w' new,r=(.halt h w',es1)/\es1=es++new/\CH X h/\Agree X w w'/\CW X w/\s0<=w.heap.size/\∀e∈new,EvC X w e)
def resW {α:Type}:Result α->World
 | .ok _ w=>w
 | .halt _ w=>w
section
variable {P' P:Program}{X:Nat->Prop}{α:Type}{Q:α->Prop}
theorem Ends.more [Stays]{es new0:Array Event}{s0 s1:Nat}{r r':Result α×Array Event}(h:Ends X Q (es++new0) s1 r r')(hs:s0<=s1)(hn:∀e∈new0,∀w:World,s1<=w.heap.size->EvC X w e):Ends X Q es s0 r r':=by
 obtain⟨r,es1⟩:=r;cases r with
 | ok a w=>
  intro hp;obtain⟨w',new,h1,h2,h3,h4,h5,h6,h7⟩:=h λb hb=>hp b (by omega);refine⟨w',new0++new,h1,by rw[h2,Array.append_assoc],h3,h4,h5,by omega,λe he=>?_⟩;rcases Array.mem_append.1 he with he|he
  ·exact hn e he w h6
  ·exact h7 e he
 | halt hh w=>
  rcases h with h|h
  ·exact .inl h
  ·refine .inr λhp=>?_;obtain⟨w',new,h1,h2,h3,h4,h5,h6,h7⟩:=h λb hb=>hp b (by omega);refine⟨w',new0++new,h1,by rw[h2,Array.append_assoc],h3,h4,h5,by omega,λe he=>?_⟩;rcases Array.mem_append.1 he with he|he
   ·exact hn e he w h6
   ·exact h7 e he
theorem Ends.of [Stays]{es:Array Event}{s0:Nat}{r r':Result α×Array Event}(h:(∀b,s0<=b->b<(resW r.1).heap.size->¬X b)->Ends X Q es s0 r r'):Ends X Q es s0 r r':=by
 obtain⟨r,es1⟩:=r;cases r with
 | ok a w=>exact λhp=>h hp hp
 | halt hh w=>
  by_cases hp:∀b,s0<=b->b<w.heap.size->¬X b
  ·rcases h hp with h|h
   ·exact .inl h
   ·exact .inr h
  ·exact .inr λhp'=>absurd hp' hp
theorem Ends.push [Stays]{es:Array Event}{e:Event}{s0 s1:Nat}{r r':Result α×Array Event}(h:Ends X Q (es.push e) s1 r r')(hs:s0<=s1)(hn:∀w:World,s1<=w.heap.size->EvC X w e):Ends X Q es s0 r r':=by
 rw[Array.push_eq_append]at h;exact h.more hs λe' he w hw=>by simp at he;subst he;exact hn w hw
theorem Ends.more0 [Stays]{es:Array Event}{s0 s1:Nat}{r r':Result α×Array Event}(h:Ends X Q es s1 r r')(hs:s0<=s1):Ends X Q es s0 r r':=
 Ends.more (new0:=#[]) (by simpa using h) hs (by simp)
theorem j9h {P:Program}{w:World}{a:Addr}{u:TypeId}{k:Addr}{b:Bool}{r:Array Value×TypeId×(Nat×Nat)×Nat×Value×List (Nat×Nat×List UInt8)}(h:World.seen P w a u k b=.ok r):w.heap[a.block]?=some (.cells r.1 r.2.1 r.2.2.1):=by
 unfold World.seen at h;simp only[bind,Except.bind,pure,Except.pure,throw,throwThe,MonadExceptOf.throw]at h
 repeat' (split at h<;>try (cases h;done))
 all_goals (first|(cases h;rename_i he _ _ _ _ _ _ _ _;exact he)|(cases h;assumption)|skip)
theorem j88 {like v:Value}{bs:List UInt8}(h:like.ofBytes bs=some v):CV X v:=by
 unfold Value.ofBytes at h;split at h
 ·split at h
  ·cases h;exact .bool
  ·cases h;exact .bool
  ·cases h
 ·split at h
  ·cases h;exact .int
  ·cases h
 ·split at h
  ·cases h;exact .float
  ·cases h
 ·split at h
  ·cases h;exact .complex
  ·cases h
 ·cases h
theorem jcx {P:Program}{w:World}{a:Addr}{u:TypeId}{k:Addr}{b:Bool}{v:Value}{l:List Addr}(h:World.viewLoad P w a u k b=.ok (v,l)):CV X v/\a.block<w.heap.size/\∀x∈l,x.block=a.block:=by
 unfold World.viewLoad at h;simp only[bind,Except.bind,pure,Except.pure,throw,throwThe,MonadExceptOf.throw]at h;cases hs:World.seen P w a u k b with
 | error e=>rw[hs]at h;cases h
 | ok r=>
  rw[hs]at h;have hc:=j9h hs;obtain⟨c,e,fr,first,like,cells⟩:=r;simp only at h;split at h
  ·rename_i v' hv
   cases h;exact⟨j88 hv,(Array.getElem?_eq_some_iff.1 hc).1,λx hx=>by
    obtain⟨y,_,rfl⟩:=List.mem_map.1 hx;rfl⟩
  ·cases h
theorem jc9 {w:World}{a:Addr}(hC:CW X w)(ha:¬X a.block)(s:String):Dead (w.noCell a s):=by
 unfold World.noCell;split
 ·rename_i e;exact(hC.obj _ _ e ha).elim
 ·exact .inl ⟨_,rfl,λ_ e=>by cases e⟩
 ·exact .inr ⟨_,rfl⟩
theorem jgs [Stays](hT:P'.toTables=P.toTables){w w':World}{a:Addr}{b:Bool}(hA:Agree X w w')(hC:CW X w)(ha:¬X a.block):w'.farLoad P a b=w.farLoad P' a b:=by
 unfold World.farLoad;rw[hA.block _ ha,hA.noCell ha];cases ho:w.heap[a.block]? with
 | none=>rfl
 | some o=>
  cases o with
  | view at_ u=>
   have:=hC.obj _ _ ho ha;simp only[CO]at this;simp only[<- jo6 hT (hA.block _ this).symm]
  | _=>rfl
theorem j7x {P:Program}{w:World}{a:Addr}{b:Bool}{h:Halt}(hC:CW X w)(ha:¬X a.block)(hf:w.farLoad P a b=.error h):Dead h:=by
 unfold World.farLoad at hf;split at hf
 ·split at hf
  ·cases hf
  ·cases hf;exact .inl ⟨_,rfl,λ_ e=>by cases e⟩
 ·cases hf;exact jc9 hC ha _
theorem j90 {P:Program}{w:World}{a:Addr}{b:Bool}{v:Value}{l:List Addr}(hC:CW X w)(ha:¬X a.block)(hf:w.farLoad P a b=.ok (v,l)):CV X v/\∀x∈l,¬X x.block/\x.block<w.heap.size:=by
 unfold World.farLoad at hf;split at hf
 ·rename_i at_ u ho
  have hx:=hC.obj _ _ ho ha;simp only[CO]at hx;split at hf
  ·rename_i r hv
   cases hf;obtain⟨h1,h2,h3⟩:=jcx (X:=X) hv;exact⟨h1,λx hx'=>by rw[h3 x hx'];exact⟨hx,h2⟩⟩
  ·cases hf
 ·cases hf
theorem jda {P:Program}{w:World}{a:Addr}{v:Value}{b:Bool}{h:Halt}(hC:CW X w)(ha:¬X a.block)(hf:w.farStore P a v b=.error h):Dead h:=by
 unfold World.farStore at hf;split at hf
 ·split at hf
  ·cases hf
  ·cases hf;exact .inl ⟨_,rfl,λ_ e=>by cases e⟩
 ·cases hf;exact jc9 hC ha _
theorem jn4 {σ β:Type}{I:σ->Prop}{f:σ->β->Except String σ}(hf:∀s x s',I s->f s x=.ok s'->I s'):∀(l:List β)(s s':σ),I s->l.foldlM f s=.ok s'->I s':=by
 intro l;induction l with
 | nil=>intro s s' h e;simp only[List.foldlM_nil,pure,Except.pure]at e;cases e;exact h
 | cons x l ih=>
  intro s s' h e;simp only[List.foldlM_cons,bind,Except.bind]at e;cases hx:f s x with
  | error m=>rw[hx]at e;cases e
  | ok s1=>rw[hx]at e;exact ih s1 s' (hf s x s1 h hx) e
theorem jdp [Stays](hT:P'.toTables=P.toTables){w w' w1:World}{a:Addr}{u:TypeId}{k:Addr}{v:Value}{b:Bool}{l:List Addr}(hA:Agree X w w')(hC:CW X w)(ha:¬X a.block)(hf:World.viewStore P' w a u k v b=.ok (w1,l)) :
  ∃w1',World.viewStore P w' a u k v b=.ok (w1',l)/\Agree X w1 w1'/\CW X w1/\w.heap.size=w1.heap.size/\∀x∈l,x.block=a.block/\a.block<w.heap.size:=by
 unfold World.viewStore at hf ⊢;rw[jvv hT,j2w hT,juq hT (hA.block _ ha).symm]at hf;simp only[bind,Except.bind,pure,Except.pure,throw,throwThe,MonadExceptOf.throw]at hf ⊢;split at hf
 ·cases hf
 rename_i h0
 rw[if_neg h0];cases hs:World.seen P w' a u k b with
 | error e=>rw[hs]at hf;cases hf
 | ok r=>
  rw[hs]at hf;have hc:=j9h hs;obtain⟨c,e,fr,first,like,cells⟩:=r;simp only at hf hc ⊢;split at hf
  ·rename_i bytes hb
   split at hf
   ·cases hf
   rename_i h2
   rw[if_neg h2];split at hf
   ·cases hf
   rename_i c' hc'
   cases hf;rw[hA.block _ ha]at hc;have hcl:∀x∈c',CV X x:=by
    refine jn4 (I:=λc:Array Value=>∀x∈c,CV X x) ?_ _ _ _ (hC.obj _ _ hc ha) hc';intro s x s' hI hx;obtain⟨i,s0,bs⟩:=x;simp only at hx
    repeat' (split at hx<;>try (cases hx;done))
    rename_i new hnew
    cases hx;intro y hy;rcases Array.mem_or_eq_of_mem_setIfInBounds hy with h1|h1
    ·exact hI y h1
    ·rw[h1];exact j88 hnew
   refine⟨_,rfl,hA.set _ (by assumption) _,hC.set hcl,by simp,λx hx=>?_⟩;obtain⟨y,_,rfl⟩:=List.mem_map.1 hx;exact⟨rfl,(Array.getElem?_eq_some_iff.1 hc).1⟩
  ·cases hf
theorem j7y [Stays](hT:P'.toTables=P.toTables){w w' w1:World}{a:Addr}{v:Value}{b:Bool}{l:List Addr}(hA:Agree X w w')(hC:CW X w)(ha:¬X a.block)(hf:w.farStore P' a v b=.ok (w1,l)) :
  ∃w1',w'.farStore P a v b=.ok (w1',l)/\Agree X w1 w1'/\CW X w1/\w.heap.size=w1.heap.size/\∀x∈l,¬X x.block/\x.block<w.heap.size:=by
 unfold World.farStore at hf ⊢;rw[hA.block _ ha];split at hf
 ·rename_i at_ u ho
  have hx:=hC.obj _ _ ho ha;simp only[CO]at hx;split at hf
  ·rename_i r hv
   cases hf;obtain⟨w1',h1,h2,h3,h4,h5⟩:=jdp hT hA hC hx hv;simp only[h1];exact⟨w1',rfl,h2,h3,h4,λx hx'=>by rw[(h5 x hx').1];exact⟨hx,(h5 x hx').2⟩⟩
  ·cases hf
 ·cases hf
theorem jdk {P:Program}{w w1:World}{a:Addr}{u:TypeId}{k:Addr}{v:Value}{b:Bool}{l:List Addr}(hf:World.viewStore P w a u k v b=.ok (w1,l)):w.heap.size=w1.heap.size:=by
 unfold World.viewStore at hf;simp only[bind,Except.bind,pure,Except.pure,throw,throwThe,MonadExceptOf.throw]at hf
 repeat' (split at hf<;>try (cases hf;done))
 all_goals (cases hf;simp)
theorem j5j {P:Program}{w w1:World}{a:Addr}{v:Value}{b:Bool}{l:List Addr}(hf:w.farStore P a v b=.ok (w1,l)):w.heap.size=w1.heap.size:=by
 unfold World.farStore at hf;split at hf
 ·split at hf
  ·rename_i r hv
   cases hf;exact jdk hv
  ·cases hf
 ·cases hf
theorem jfb {α:Type}:∀(a:Ask α)(w:World),(w.ask a).2.heap=w.heap
 | .done _,_=>rfl
 | .ask what range k,w=>by
  unfold World.ask;dsimp only;split
  ·exact jfb _ _
  ·exact jfb _ _
theorem jt7 (w:World)(c:Sys):(w.sys c).2.heap=w.heap:=by
 have h:=jfb (Kernel.perform c w.os) w;unfold World.sys;split
 ·rfl
 ·rename_i e;rw[e]at h;exact h
theorem j3z {P:Program}{α:Type}:∀(t:Sem α)(w:World)(es:Array Event),w.heap.size<=(resW (t.runT P w es).1).heap.size:=by
 intro t;induction t with
 | pure a=>exact λ_ _=>Nat.le_refl _
 | halt h=>exact λ_ _=>Nat.le_refl _
 | load m a k ih=>
  intro w es;simp only[Sem.runT];split
  ·exact ih _ _ _
  ·split
   ·exact ih _ _ _
   ·exact Nat.le_refl _
 | store m a v k ih=>
  intro w es;have main:w.heap.size<=(resW (match w.cell? a with
    | some _=>
     if w.frozen? a then(.halt (.unsupported (.unsafePointer "a write to bytes that a string shares")) w,es)
     else k.runT P (w.setCell a v) (es.push ⟨.cell a,true,m==.atomic⟩)
    | none=>match w.farStore P a v (m==.atomic)with
     | .ok (w,touched)=>k.runT P w (es++touched.toArray.map (⟨.cell ·,true,m==.atomic⟩))
     | .error h=>(.halt h w,es):Result α×Array Event).1).heap.size:=by
   split
   ·split
    ·exact Nat.le_refl _
    ·have:=ih (w.setCell a v) (es.push ⟨.cell a,true,m==.atomic⟩);simpa[World.setCell]using this
   ·split
    ·rename_i w1 l hf
     rw[j5j hf];exact ih _ _
    ·exact Nat.le_refl _
  cases v with
  | agg cs=>exact Nat.le_refl _
  | tuple cs=>exact Nat.le_refl _
  | _=>exact main
 | new o k ih=>
  intro w es;simp only[Sem.runT];have:=ih w.heap.size { w with heap:=w.heap.push o } es;simp only[Array.size_push]at this;omega
 | shape r k ih=>exact λw es=>ih _ w es
 | freeze a n k ih=>
  intro w es;simp only[Sem.runT];have:=ih (w.freeze a n) es;have e:(w.freeze a n).heap.size=w.heap.size:=by unfold World.freeze;split<;>simp
  rwa[e]at this
 | frozen a k ih=>exact λw es=>ih _ w es
 | getObj r k ih=>
  intro w es;simp only[Sem.runT];split
  ·exact Nat.le_refl _
  ·exact ih _ _ _
  ·exact Nat.le_refl _
 | setObj r o k ih=>
  intro w es;simp only[Sem.runT];split
  ·exact Nat.le_refl _
  ·have:=ih { w with heap:=w.heap.setIfInBounds r o } (es.push ⟨.obj r,true,o.isChan⟩);simpa using this
  ·exact Nat.le_refl _
 | choose q k ih=>
  intro w es;simp only[Sem.runT];split
  ·exact ih _ _ _
  ·exact ih (q.cut (w.tape w.drawn q)) { w with drawn:=w.drawn+1 } es
 | sys c k ih=>
  intro w es;simp only[Sem.runT];have:=ih (w.sys c).1 (w.sys c).2 (es.push ⟨.output,true,false⟩);rwa[jt7]at this
 | program k ih=>exact λw es=>ih _ w es
 | mark m k ih=>exact λw es=>ih w _
theorem jvt (w:World):w.sys .env=(.strings w.os.env,w):=rfl
theorem j3q [Stays](hT:P'.toTables=P.toTables){t t':Sem α}(h:Cl P' P X Q t t'):∀(w w':World)(es:Array Event),Agree X w w'->CW X w->Ends X Q es w.heap.size (t.runT P' w es) (t'.runT P w' es):=by
 induction h with
 | pure hq=>exact λw w' es hA hC _=>⟨w',#[],rfl,by simp,hq,hA,hC,Nat.le_refl _,by simp⟩
 | @load m a k k' ha hk ih=>
  intro w w' es hA hC;simp only[Sem.runT,hA.cell ha];cases hc:w.cell? a with
  | some v=>
   simp only[hc];have hv:=hC.cell ha hc;exact Ends.push (ih v hv.1 w w' _ hA hC) (Nat.le_refl _) (λwz hw=>.inl ⟨a,rfl,ha,by omega⟩)
  | none=>
   simp only[hc];rw[jgs hT hA hC ha];cases hf:w.farLoad P' a (m==.atomic)with
   | error hh=>exact .inl (j7x hC ha hf)
   | ok r=>
    obtain⟨v,l⟩:=r;obtain⟨hv,hl⟩:=j90 hC ha hf;refine Ends.more (ih v hv w w' _ hA hC) (Nat.le_refl _) λe he wz hw=>?_;obtain⟨x,hx,rfl⟩:=Array.mem_map.1 he;have:=hl x (by simpa using hx);exact .inl ⟨x,rfl,this.1,by omega⟩
 | @store m a v k k' ha hv _ ih=>
  intro w w' es hA hC;have main:Ends X Q es w.heap.size (match w.cell? a with
    | some _=>
     if w.frozen? a then(.halt (.unsupported (.unsafePointer "a write to bytes that a string shares")) w,es)
     else k.runT P' (w.setCell a v) (es.push ⟨.cell a,true,m==.atomic⟩)
    | none=>match w.farStore P' a v (m==.atomic)with
     | .ok (w,touched)=>k.runT P' w (es++touched.toArray.map (⟨.cell ·,true,m==.atomic⟩))
     | .error h=>(.halt h w,es)) (match w'.cell? a with
    | some _=>
     if w'.frozen? a then(.halt (.unsupported (.unsafePointer "a write to bytes that a string shares")) w',es)
     else k'.runT P (w'.setCell a v) (es.push ⟨.cell a,true,m==.atomic⟩)
    | none=>match w'.farStore P a v (m==.atomic)with
     | .ok (w,touched)=>k'.runT P w (es++touched.toArray.map (⟨.cell ·,true,m==.atomic⟩))
     | .error h=>(.halt h w',es)):=by
   rw[hA.cell ha];cases hc:w.cell? a with
   | some u=>
    simp only[hA.frozen ha];split
    ·exact .inl (.inl ⟨_,rfl,λ_ e=>by cases e⟩)
    ·refine Ends.push (ih _ _ _ (hA.setCell ha) (hC.setCell hv)) (by simp[World.setCell]) (λwz hw=>.inl ⟨a,rfl,ha,?_⟩);have:=(hC.cell ha hc).2;simp[World.setCell]at hw;omega
   | none=>
    simp only;cases hf:w.farStore P' a v (m==.atomic)with
    | error hh=>exact .inl (jda hC ha hf)
    | ok r=>
     obtain⟨w1,l⟩:=r;obtain⟨w1',h1,hA1,hC1,hs,hl⟩:=j7y hT hA hC ha hf;rw[h1];refine Ends.more (ih _ _ _ hA1 hC1) (by omega) λe he wz hw=>?_;obtain⟨x,hx,rfl⟩:=Array.mem_map.1 he;have:=hl x (by simpa using hx);exact .inl ⟨x,rfl,this.1,by omega⟩
  cases v with
  | agg cs=>exact .inl (.inr ⟨_,rfl⟩)
  | tuple cs=>exact .inl (.inr ⟨_,rfl⟩)
  | _=>exact main
 | @new o k k' ho _ ih=>
  intro w w' es hA hC;simp only[Sem.runT];rw[hA.size];refine Ends.of λhp=>?_;have hsz:=j3z (P:=P') (k w.heap.size) { w with heap:=w.heap.push o } es;simp only[Array.size_push]at hsz;exact(ih _ (hp _ (Nat.le_refl _) (by omega)) _ _ es (hA.push o) (hC.push ho)).more0 (by simp)
 | @shape r k k' hr _ ih=>
  intro w w' es hA hC;simp only[Sem.runT,hA.shape hr];exact ih _ w w' es hA hC
 | @freeze a n k k' ha _ ih=>
  intro w w' es hA hC;simp only[Sem.runT];refine(ih _ _ es (hA.freeze (by assumption) n) (hC.freeze n)).more0 ?_;unfold World.freeze;split<;>simp
 | @frozen a k k' ha _ ih=>
  intro w w' es hA hC;simp only[Sem.runT,hA.frozen ha];exact ih _ w w' es hA hC
 | @getObj r k k' hr _ ih=>
  intro w w' es hA hC;simp only[Sem.runT,hA.block r hr];cases ho:w.heap[r]? with
  | none=>exact .inl (.inr ⟨_,rfl⟩)
  | some o=>
   cases o with
   | cells c e f=>exact .inl (.inr ⟨_,rfl⟩)
   | _=>
    exact Ends.push (ih _ (hC.obj r _ ho hr) w w' _ hA hC) (Nat.le_refl _) (λwz hw=>.inr (.inl ⟨r,rfl,hr,by have:=(Array.getElem?_eq_some_iff.1 ho).1;omega,λh=>by cases h⟩))
 | @setObj r o k k' hr ho hch _ ih=>
  intro w w' es hA hC;simp only[Sem.runT,hA.block r hr];cases ho':w.heap[r]? with
  | none=>exact .inl (.inr ⟨_,rfl⟩)
  | some o'=>
   cases o' with
   | cells c e f=>exact .inl (.inr ⟨_,rfl⟩)
   | _=>
    exact Ends.push (ih _ _ _ (hA.set r hr o) (hC.set ho)) (by simp) (λwz hw=>.inr (.inl ⟨r,rfl,hr,by have:=(Array.getElem?_eq_some_iff.1 ho').1;simp at hw;omega,λ_=>hch⟩))
 | @choose q k k' _ ih=>
  intro w w' es hA hC;simp only[Sem.runT,hA.tape,hA.drawn];split
  ·exact ih _ w w' es hA hC
  ·exact ih (q.cut (w.tape w.drawn q)) { w with drawn:=w.drawn+1 } { w' with tape:=w.tape,drawn:=w.drawn+1 } es ⟨rfl,rfl,hA.os,hA.output,hA.size,hA.block,hA.keep⟩ ⟨hC.obj⟩
 | @env k k' _ ih=>
  intro w w' es hA hC;simp only[Sem.runT,jvt,hA.os];exact Ends.push (ih _ _ _ _ hA hC) (Nat.le_refl _) (λ_ _=>.inr (.inr (.inl rfl)))
 | program _ ih=>exact λw w' es hA hC=>ih w w' es hA hC
 | @mark m k k' hm _ ih=>
  intro w w' es hA hC;simp only[Sem.runT];refine Ends.push (ih w w' _ hA hC) (Nat.le_refl _) λwz hw=>?_;rcases hm with rfl|⟨f,rfl⟩
  ·exact .inr (.inr (.inr (.inl rfl)))
  ·exact .inr (.inr (.inr (.inr ⟨f,rfl⟩)))
 | halt hh=>exact λw w' es hA hC=>.inr λ_=>⟨w',#[],rfl,by simp,hh,hA,hC,Nat.le_refl _,by simp⟩
 | dead hh=>exact λw w' es hA hC=>.inl hh
 | deadM hh=>exact λw w' es hA hC=>.inl hh
end
end Go.Proofs.Mn
namespace Go.Proofs.Mn
open Go Go.Conc
variable [Atom]
def RtFree (rt:RuntimeTypes):Prop:=rt.boundsError≠Atom.t/\rt.errorString≠Atom.t/\rt.plainError≠Atom.t/\rt.typeAssertionError≠Atom.t/\rt.panicNilError≠Atom.t/\rt.unhashableTypeError≠Atom.t
def DeadF (P' P:Program)(X:Nat->Prop)(f:FuncId):Prop:=∀(Q:Next->Prop) args,Cl P' P X Q (callFunc f args) (callFunc f args)
structure Pair (P' P:Program)(X:Nat->Prop):Prop where
 tables:P'.toTables=P.toTables
 high:∀b,X b->P.globals.size+1<=b
 zero:∀t i v,P.info? t=some i->i.zero=some v->CV X v
 rt:RtFree P.rt
 eqAtom:∀d,Cl P' P X (λ_=>True) (Op.equalIn d Atom.t Atom.v Atom.v) (Op.equalIn d Atom.t Atom.v Atom.v)
 methAtom:∀n name,Cl P' P X (λr=>DeadF P' P X r.1) (method n Atom.t Atom.v name) (method n Atom.t Atom.v name)
 aheadAtom:∀n name,Cl P' P X (λ_=>True) (nilAhead n Atom.t Atom.v name) (nilAhead n Atom.t Atom.v name)
section
variable {P' P:Program}{X:Nat->Prop}{α β:Type}{Q:α->Prop}
theorem j8 {s:String}{t:Sem α}:Cl P' P X Q (stuck s) t:=.dead (.inr ⟨_,rfl⟩)
theorem jj {u:Unsupported}{t:Sem α}(hu:∀g,u≠.initOrder g:=by intro g e;cases e):Cl P' P X Q (unsupported u) t:=.dead (.inl ⟨_,rfl,hu⟩)
theorem jn {γ:Type}{s:String}{f:γ->Sem α}{t:Sem α}:Cl P' P X Q (stuck s >>= f) t:=.dead (.inr ⟨_,rfl⟩)
theorem j24 {γ:Type}{u:Unsupported}{f:γ->Sem α}{t:Sem α}(hu:∀g,u≠.initOrder g:=by intro g e;cases e):Cl P' P X Q (unsupported u >>= f) t:=.dead (.inl ⟨_,rfl,hu⟩)
theorem j14 {s:String}{t:Sem α}:Cl P' P X Q (unsupported (.noEntry s)) t:=jj
theorem jy {γ:Type}{s:String}{f:γ->Sem α}{t:Sem α}:Cl P' P X Q (unsupported (.noEntry s) >>= f) t:=j24
theorem j16 {s:String}{t:Sem α}:Cl P' P X Q (unsupported (.unsafePointer s)) t:=jj
theorem j11 {γ:Type}{s:String}{f:γ->Sem α}{t:Sem α}:Cl P' P X Q (unsupported (.unsafePointer s) >>= f) t:=j24
theorem j15 {t:Sem α}:Cl P' P X Q (unsupported (.addressObserved)) t:=jj
theorem j10 {γ:Type}{f:γ->Sem α}{t:Sem α}:Cl P' P X Q (unsupported (.addressObserved) >>= f) t:=j24
theorem j2m {v:Value}(h:CV X v):Cl P' P X Q (goPanic v) (goPanic v):=.halt h
theorem j7 {a:α}(h:Q a):Cl P' P X Q (pure a) (pure a):=.pure h
theorem j12 {f f':Program->Sem α}(h:Cl P' P X Q (f P') (f' P)):Cl P' P X Q (program >>= f) (program >>= f'):=.program h
theorem jba {a:Addr}{m:Mode}(h:¬X a.block):Cl P' P X (CV X) (load a m) (load a m):=.load h λv hv=>.pure hv
theorem jss {a:Addr}{v:Value}{m:Mode}(h:¬X a.block)(hv:CV X v):Cl P' P X (λ_=>True) (store a v m) (store a v m):=.store h hv (.pure trivial)
theorem j5x {o:Obj}(h:CO X o):Cl P' P X (λr=>¬X r) (newObj o) (newObj o):=.new h λr hr=>.pure hr
theorem j2n {r:Nat}(h:¬X r):Cl P' P X (λ_=>True) (shape r) (shape r):=.shape h λ_=>.pure trivial
theorem jgd {a:Addr}{n:Nat}(h:¬X a.block):Cl P' P X (λ_=>True) (freeze a n) (freeze a n):=.freeze h (.pure trivial)
theorem j5v {a:Addr}(h:¬X a.block):Cl P' P X (λ_=>True) (frozen a) (frozen a):=.frozen h λ_=>.pure trivial
theorem j48 {r:Nat}(h:¬X r):Cl P' P X (CO X) (getObj r) (getObj r):=.getObj h λo ho=>.pure ho
theorem jox {r:Nat}{o:Obj}(h:¬X r)(ho:CO X o)(hc:o.isChan=false):Cl P' P X (λ_=>True) (setObj r o) (setObj r o):=.setObj h ho hc (.pure trivial)
theorem jl {q:Question}:Cl P' P X (λ_=>True) (choose q) (choose q):=.choose λ_=>.pure trivial
theorem jx0:Cl P' P X (λ_=>True) (sys .env) (sys .env):=.env λ_=>.pure trivial
theorem jk {n:Nat}:Cl P' P X (λ_=>True) (askRoom n) (askRoom n):=by
 unfold askRoom;split
 ·exact .mark (.inl rfl) (.pure trivial)
 ·exact .pure trivial
theorem je (H:Pair P' P X){t:TypeId}:Cl P' P X (λi=>P.info? t=some i) (typeInfo t) (typeInfo t):=by
 unfold typeInfo;refine j12 ?_;rw[ji9 H.tables];split
 ·rename_i i hi;exact j7 hi
 ·exact j8
theorem j9 (H:Pair P' P X){t:TypeId}:Cl P' P X (λd=>P.underlying t=some d) (underlying t) (underlying t):=by
 unfold underlying;refine j12 ?_;rw[j1d H.tables];split
 ·rename_i i hi;exact j7 hi
 ·exact j8
theorem jh (H:Pair P' P X){t:TypeId}:Cl P' P X (λ_=>True) (sizeOf t) (sizeOf t):=(je H).bind λ_ _=>j7 trivial
theorem jks (H:Pair P' P X){t:TypeId}:Cl P' P X (λ_=>True) (isAgg t) (isAgg t):=by
 unfold isAgg;refine(j9 H).bind λd _=>?_;split<;>exact j7 trivial
theorem jd (H:Pair P' P X){t:TypeId}:Cl P' P X (CV X) (zeroValue t) (zeroValue t):=by
 unfold zeroValue;refine(je H).bind λi hi=>?_;split
 ·rename_i v hv;exact j7 (H.zero t i v hi hv)
 ·exact jj
theorem jq (H:Pair P' P X){t:TypeId}:Cl P' P X (λ_=>True) (elemOf t) (elemOf t):=by
 unfold elemOf;refine(j9 H).bind λd _=>?_;split
 ·exact j7 trivial
 ·exact j8
theorem jmg (H:Pair P' P X){t:TypeId}:Cl P' P X (λ_=>True) (typeStr t) (typeStr t):=by
 unfold typeStr;refine(je H).bind λd _=>?_;dsimp only;split
 ·exact jj
 ·exact j7 trivial
theorem j2r (a:Addr)(n:Nat):(a.add n).block=a.block:=by unfold Addr.add;split<;>rfl
theorem j2q {v:Value}(h:CV X v):∀x∈v.cells,CV X x:=by
 unfold Value.cells;split
 ·cases h with
  | agg h=>exact h
 ·intro x hx;simp at hx;subst hx;exact h
theorem j3d {cs:Array Value}(h:CV X (.agg cs)):∀x∈cs,CV X x:=by cases h with|agg h=>exact h
theorem jsv {cs:Array Value}(h:CV X (.tuple cs)):∀x∈cs,CV X x:=by cases h with|tuple h=>exact h
theorem j1m {a:Addr}(h:CV X (.pointer (some a))):¬X a.block:=by cases h with|pointer h=>exact h _ rfl
theorem j26 {a:Addr}{l c:Nat}(h:CV X (.slice (some a) l c)):¬X a.block:=by cases h with|slice h=>exact h _ rfl
theorem j1w {a:Addr}(h:¬X a.block):CV X (.pointer (some a)):=.pointer λ_ e=>by cases e;exact h
theorem j1x {a:Addr}{l c:Nat}(h:¬X a.block):CV X (.slice (some a) l c):=.slice λ_ e=>by cases e;exact h
theorem j60:CV X (.pointer none):=.pointer λ_ e=>by cases e
theorem j6y {l c:Nat}:CV X (.slice none l c):=.slice λ_ e=>by cases e
theorem j5b {t:TypeId}{v:Value}(h:CV X (.iface t v)):(t≠Atom.t/\CV X v)\/(t=Atom.t/\v=Atom.v):=by
 cases h with
 | iface ht h=>exact .inl ⟨ht,h⟩
 | atom=>exact .inr ⟨rfl,rfl⟩
theorem jj4 {vs:Array Value}(h:∀v∈vs,CV X v){d:Value}(hd:CV X d)(i:Nat):CV X (vs.getD i d):=by
 rw[Array.getD_eq_getD_getElem?];cases hi:vs[i]? with
 | none=>exact hd
 | some v=>exact h v (Array.mem_of_getElem? hi)
theorem j4p {vs:Array Value}(h:∀v∈vs,CV X v){i:Nat}{v:Value}(hi:vs[i]?=some v):CV X v:=h v (Array.mem_of_getElem? hi)
theorem j3w:CV X undef:=.tuple (by simp)
theorem jjq {vs:Array Value}{i j:Nat}{v:Value}(h:v∈vs.extract i j):v∈vs:=by
 obtain⟨k,hk,rfl⟩:=Array.mem_iff_getElem.1 h;rw[Array.getElem_extract];exact Array.getElem_mem _
theorem j8x {vs:Array Value}(h:∀v∈vs,CV X v)(i j:Nat):∀v∈vs.extract i j,CV X v:=λv hv=>h v (jjq hv)
theorem j1z {a b:Array Value}(ha:∀v∈a,CV X v)(hb:∀v∈b,CV X v):∀v∈a++b,CV X v:=λv hv=>(Array.mem_append.1 hv).elim (ha v) (hb v)
theorem jj5 {a:Array Value}{v:Value}(ha:∀v∈a,CV X v)(hv:CV X v):∀x∈a.push v,CV X x:=λx hx=>(Array.mem_push.1 hx).elim (ha x) (λe=>e▸hv)
theorem j7u {zero:Array Value}(hz:∀v∈zero,CV X v){n:Nat}{f:Nat->Nat}:∀v∈(Array.range n).map (λi=>zero[f i]!),CV X v:=by
 intro v hv;obtain⟨i,_,rfl⟩:=Array.mem_map.1 hv;rw[getElem!_def];split
 ·rename_i x hx;exact hz x (Array.mem_of_getElem? hx)
 ·exact .bool
theorem jaf {a:Addr}(h:¬X a.block):∀(n i:Nat)(acc:Array Value),(∀v∈acc,CV X v)->Cl P' P X (λcs=>∀v∈cs,CV X v) (loadCellsFrom a i n acc) (loadCellsFrom a i n acc):=by
 intro n;induction n with
 | zero=>intro i acc ha;exact j7 ha
 | succ n ih=>
  intro i acc ha;unfold loadCellsFrom;exact(jba (by rw[j2r];exact h)).bind λv hv=>ih _ _ (jj5 ha hv)
theorem j4h {a:Addr}(h:¬X a.block){n:Nat}:Cl P' P X (λcs=>∀v∈cs,CV X v) (loadCells a n) (loadCells a n):=jaf h n 0 #[] (by simp)
theorem j3u {a:Addr}(h:¬X a.block):∀(vs:List Value)(i:Nat),(∀v∈vs,CV X v)->Cl P' P X (λ_=>True) (storeCells a vs i) (storeCells a vs i):=by
 intro vs;induction vs with
 | nil=>intro i _;exact j7 trivial
 | cons v vs ih=>
  intro i hv;unfold storeCells;exact(jss (by rw[j2r];exact h) (hv v (by simp))).bind λ_ _=>ih _ λx hx=>hv x (by simp[hx])
theorem j41 (H:Pair P' P X){t:TypeId}{a:Addr}(h:¬X a.block):Cl P' P X (CV X) (loadVar t a) (loadVar t a):=by
 unfold loadVar;refine(jks H).bind λb _=>?_;split
 ·exact(jh H).bind λn _=>(j4h h).bind λcs hcs=>j7 (.agg hcs)
 ·exact jba h
theorem jj0 (H:Pair P' P X){t:TypeId}{a:Addr}{v:Value}(h:¬X a.block)(hv:CV X v):Cl P' P X (λ_=>True) (storeVar t a v) (storeVar t a v):=by
 unfold storeVar;refine(jh H).bind λn _=>?_;have:Cl P' P X (λ_=>True) (storeCells a v.cells.toList) (storeCells a v.cells.toList):=j3u h _ 0 λx hx=>j2q hv x (by simpa using hx);split
 ·exact j8
 ·exact this
theorem j3l {e:TypeId}{cs:Array Value}(h:∀v∈cs,CV X v):Cl P' P X (λa=>¬X a.block) (newRow e cs) (newRow e cs):=(j5x (o:=.cells cs e) h).bind λr hr=>j7 hr
theorem j7k {t:TypeId}{v:Value}(h:CV X v):Cl P' P X (λa=>¬X a.block) (newVar t v) (newVar t v):=j3l (j2q h)
theorem j3s (H:Pair P' P X){t:TypeId}{cs:Array Value}{off:Nat}(h:∀v∈cs,CV X v):Cl P' P X (CV X) (part t cs off) (part t cs off):=by
 unfold part;refine(jks H).bind λb _=>?_;split
 ·exact(jh H).bind λn _=>j7 (.agg (j8x h _ _))
 ·split
  ·rename_i v hv;exact j7 (j4p h hv)
  ·exact j8
theorem j7t (s:String):CV X (strVal s):=.string
theorem jbo (H:Pair P' P X)(t:TypeId):CV X (typeHandle P t):=j1w λhx=>by have:=H.high _ hx;simp only at this;omega
theorem jlp (H:Pair P' P X)(t:TypeId):typeHandle P' t=typeHandle P t:=by unfold typeHandle;rw[j69 H.tables]
theorem ja (H:Pair P' P X){e:RuntimeError}:Cl P' P X Q (runtimePanic e) (runtimePanic e):=by
 unfold runtimePanic;refine j12 ?_;simp only[t_rt H.tables,jlp H];cases e with
 | bounds x y s c=>exact j2m (.iface H.rt.1 (.agg (by intro v hv;simp at hv;rcases hv with rfl|rfl|rfl|rfl<;>first|exact .int|exact .bool)))
 | error m=>exact j2m (.iface H.rt.2.1 (j7t _))
 | plain m=>exact j2m (.iface H.rt.2.2.1 (j7t _))
 | nilDeref=>exact j2m (.iface H.rt.2.1 (j7t _))
 | typeAssertion i c a m=>
  refine(jq H).bind λ_ _=>(j7k (.agg ?_)).bind λr hr=>j2m (.iface H.rt.2.2.2.1 (j1w hr));have hh:∀o:Option TypeId,CV X (match o with|some t=>typeHandle P t|none=>.pointer none):=λo=>by cases o with|none=>exact j60|some t=>exact jbo H t
  intro v hv;simp only[List.mem_toArray,List.mem_cons,List.not_mem_nil,or_false]at hv;rcases hv with rfl|rfl|rfl|rfl
  ·exact hh i
  ·exact hh c
  ·exact hh (some a)
  ·exact j7t _
 | panicNil=>exact(jq H).bind λ_ _=>(j7k (.agg (by simp))).bind λr hr=>j2m (.iface H.rt.2.2.2.2.1 (j1w hr))
 | unhashable t=>exact j2m (.iface H.rt.2.2.2.2.2 (.agg (by intro v hv;simp at hv;subst hv;exact jbo H t)))
theorem jb (H:Pair P' P X){k:IntKind}{x y:Int}{c:BoundsCode}:Cl P' P X Q (boundsPanic k x y c) (boundsPanic k x y c):=by
 unfold boundsPanic;dsimp only;split
 ·exact Cl.bind (Q:=λ_=>True) (Cl.bind (Q:=λ_=>True) jl λ_ _=>j7 trivial) λ_ _=>ja H
 ·exact Cl.bind (Q:=λ_=>True) (j7 trivial) λ_ _=>ja H
theorem j1h (H:Pair P' P X){γ:Type}{e:RuntimeError}{f f':γ->Sem α}:Cl P' P X Q (runtimePanic e >>= f) (runtimePanic e >>= f'):=(ja H (Q:=λ_=>False)).bind λ_ h=>h.elim
theorem jr {γ:Type}{x:γ}{f f':γ->Sem α}(h:Cl P' P X Q (f x) (f' x)):Cl P' P X Q (pure x >>= f) (pure x >>= f'):=h
theorem ji {v:Value}:Cl P' P X (λ_=>True) (asIntOf v) (asIntOf v):=by
 unfold asIntOf;split
 ·exact j7 trivial
 ·exact jj
 ·exact j8
theorem jv {v:Value}:Cl P' P X (λ_=>True) (asInt v) (asInt v):=ji.bind λ_ _=>j7 trivial
theorem jp {v:Value}:Cl P' P X (λ_=>True) (asBool v) (asBool v):=by
 unfold asBool;split
 ·exact j7 trivial
 ·exact j8
theorem jsj {v:Value}(h:CV X v):Cl P' P X (λcs=>∀v∈cs,CV X v) (asAgg v) (asAgg v):=by
 unfold asAgg;split
 ·exact j7 (j3d h)
 ·exact j8
theorem j5u (H:Pair P' P X){v:Value}(h:CV X v):Cl P' P X (λa=>¬X a.block) (asAddr v) (asAddr v):=by
 unfold asAddr;split
 ·exact j7 (j1m h)
 ·exact ja H
 ·exact j8
theorem jg {v:Value}(h:CV X v):Cl P' P X (λa=>¬X a.block) (Instr.sureAddr v) (Instr.sureAddr v):=by
 unfold Instr.sureAddr;split
 ·exact j7 (j1m h)
 ·exact j8
theorem jbi {r:Nat}(h:¬X r):Cl P' P X (λo=>∀a t,o=some (a,t)->¬X a.block) (viewAt r) (viewAt r):=by
 unfold viewAt;refine(j2n h).bind λs _=>?_;split
 ·exact j7 (by intro a t e;cases e)
 ·refine(j48 h).bind λo ho=>?_;split
  ·exact j7 (by intro a t e;cases e;exact ho)
  ·exact j7 (by intro a t e;cases e)
theorem jbe {r:Nat}(h:¬X r):Cl P' P X (λo=>∀a t,o=some (a,t)->¬X a.block) (numberAt r) (numberAt r):=by
 unfold numberAt;refine(j2n h).bind λs _=>?_;split
 ·exact j7 (by intro a t e;cases e)
 ·refine(j48 h).bind λo ho=>?_;split
  ·exact j7 (by intro a t e;cases e;exact ho)
  ·exact j7 (by intro a t e;cases e)
theorem j13 {a:Addr}(h:¬X a.block):Cl P' P X (λr=>¬X r.1.block) (behindNumber a) (behindNumber a):=by
 unfold behindNumber;refine(jbe h).bind λo ho=>j7 ?_;cases o with
 | none=>exact h
 | some r=>exact ho r.1 r.2 rfl
theorem jb7 {a:Addr}{l:Bool}(h:¬X a.block):Cl P' P X (CV X) (asNumber a l) (asNumber a l):=(j5x (o:=.number a l) h).bind λr hr=>j7 (j1w hr)
theorem jbd {a:Addr}(h:¬X a.block):Cl P' P X (λ_=>True) (noView a) (noView a):=by
 unfold noView;refine(jbi h).bind λo _=>?_;split
 ·exact jj
 ·exact j7 trivial
theorem jm7 {r:Nat}(h:¬X r):Cl P' P X (λ_=>True) (cellsIn r) (cellsIn r):=by
 unfold cellsIn;refine(j2n h).bind λs _=>?_;split
 ·exact j7 trivial
 ·refine(j48 h).bind λo ho=>?_;split<;>exact j7 trivial
theorem j9t {a:Addr}(h:¬X a.block):Cl P' P X (λ_=>True) (stringish a) (stringish a):=by
 unfold stringish;refine(j5v h).bind λb _=>?_;split
 ·exact j7 trivial
 ·refine(j2n h).bind λs _=>?_;split
  ·exact j5v h
  ·exact j7 trivial
theorem jix {a b:Addr}(ha:¬X a.block)(hb:¬X b.block):Cl P' P X (λ_=>True) (mayBeOne a b) (mayBeOne a b):=by
 unfold mayBeOne;refine(j9t ha).bind λ_ _=>(j9t hb).bind λ_ _=>?_;have no:∀{x:Addr},¬X x.block->Cl P' P X (λ_=>True) (do pure ((<- shape x.block) matches some (_,0)):Sem Bool) (do pure ((<- shape x.block) matches some (_,0))):=λh=>(j2n h).bind λ_ _=>j7 trivial;exact(no ha).bind λ_ _=>(no hb).bind λ_ _=>j7 trivial
theorem jbf {a b:Addr}(ha:¬X a.block)(hb:¬X b.block):Cl P' P X (λ_=>True) (sameAddr a b) (sameAddr a b):=by
 unfold sameAddr;split
 ·exact j7 trivial
 ·refine(j5v ha).bind λ_ _=>(j5v hb).bind λ_ _=>?_;split
  ·exact jj
  ·refine(jbd ha).bind λ_ _=>(jbd hb).bind λ_ _=>(jix ha hb).bind λ_ _=>?_;split
   ·exact jl.bind λ_ _=>j7 trivial
   ·exact j7 trivial
theorem jd4 {a b:Option Addr}(ha:CV X (.pointer a))(hb:CV X (.pointer b)):Cl P' P X (λ_=>True) (samePointer a b) (samePointer a b):=by
 unfold samePointer;split
 ·exact jbf (j1m ha) (j1m hb)
 ·exact j7 trivial
end
end Go.Proofs.Mn
