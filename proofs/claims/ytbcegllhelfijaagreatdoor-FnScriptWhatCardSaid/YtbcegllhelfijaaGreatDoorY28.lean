/-
  A part of the proof.
-/
import Derived.Test.YtbcegllhelfijaaGreatDoorY04
set_option linter.all false
set_option maxRecDepth 100000
set_option maxHeartbeats 8000000
namespace Go.Proofs.Mn
open Go Go.Conc
def okHalt:Halt->Bool
 | .panic _|.unsupported _|.stuck _=>true
 | _=>false
def Tm (P:Program){α:Type}(Q:α->Prop):Sem α->Prop
 | .pure a=>Q a
 | .load _ _ k=>∀v,Tm P Q (k v)
 | .store _ _ _ k=>Tm P Q k
 | .new _ k=>∀r,Tm P Q (k r)
 | .shape _ k=>∀s,Tm P Q (k s)
 | .freeze _ _ k=>Tm P Q k
 | .frozen _ k=>∀b,Tm P Q (k b)
 | .getObj _ k=>∀o,Tm P Q (k o)
 | .setObj _ _ _=>False
 | .choose _ k=>∀n,Tm P Q (k n)
 | .sys _ _=>False
 | .program k=>Tm P Q (k P)
 | .mark m k=>m=.noRoom/\Tm P Q k
 | .halt h=>okHalt h=true
section
variable {P:Program}{α β:Type}{Q:α->Prop}{R:β->Prop}
theorem Tm.bind':∀{t:Sem α}{f:α->Sem β},Tm P Q t->(∀a,Q a->Tm P R (f a))->Tm P R (t.bind f):=by
 intro t;induction t with
 | pure a=>exact λh hf=>hf _ h
 | load m a k ih=>exact λh hf v=>ih v (h v) hf
 | store m a v k ih=>exact λh hf=>ih h hf
 | new o k ih=>exact λh hf v=>ih v (h v) hf
 | shape r k ih=>exact λh hf v=>ih v (h v) hf
 | freeze a n k ih=>exact λh hf=>ih h hf
 | frozen a k ih=>exact λh hf v=>ih v (h v) hf
 | getObj r k ih=>exact λh hf v=>ih v (h v) hf
 | setObj r o k ih=>exact λh hf=>h.elim
 | choose q k ih=>exact λh hf v=>ih v (h v) hf
 | sys c k ih=>exact λh hf=>h.elim
 | program k ih=>exact λh hf=>ih _ h hf
 | mark m k ih=>exact λh hf=>⟨h.1,ih h.2 hf⟩
 | halt h=>exact λh _=>h
theorem Tm.bind {t:Sem α}{f:α->Sem β}(h:Tm P Q t)(hf:∀a,Q a->Tm P R (f a)):Tm P R (t >>= f):=Tm.bind' h hf
theorem Tm.any {t:Sem α}{f:α->Sem β}(h:Tm P (λ_=>True) t)(hf:∀a,Tm P R (f a)):Tm P R (t >>= f):=Tm.bind' h λa _=>hf a
variable [Atom]
def EvT (w:World)(e:Event):Prop:=EvC (λ_=>False) w e
def Lists (es:Array Event)(Q:α->Prop)(r:Result α×Array Event):Prop:=
 (∃new,r.2=es++new/\∀e∈new,EvT (resW r.1) e)/\(∀a w1,r.1=.ok a w1->Q a)/\∀h w1,r.1=.halt h w1->okHalt h=true
theorem Lists.push {es:Array Event}{e:Event}{r:Result α×Array Event}(h:Lists (es.push e) Q r)(he:EvT (resW r.1) e):Lists es Q r:=by
 obtain⟨⟨new,h1,h2⟩,h3⟩:=h;refine⟨⟨#[e]++new,by rw[h1,Array.push_eq_append,Array.append_assoc],λx hx=>?_⟩,h3⟩;rcases Array.mem_append.1 hx with hx|hx
 ·simp at hx;subst hx;exact he
 ·exact h2 x hx
theorem Lists.more {es l:Array Event}{r:Result α×Array Event}(h:Lists (es++l) Q r)(he:∀e∈l,EvT (resW r.1) e):Lists es Q r:=by
 obtain⟨⟨new,h1,h2⟩,h3⟩:=h;refine⟨⟨l++new,by rw[h1,Array.append_assoc],λx hx=>?_⟩,h3⟩;rcases Array.mem_append.1 hx with hx|hx
 ·exact he x hx
 ·exact h2 x hx
theorem j2y {es:Array Event}{h:Halt}{w:World}(hh:okHalt h=true):Lists es Q (.halt h w,es):=⟨⟨#[],by simp,by simp⟩,(λa w1 e=>by cases e),λh' w1 e=>by cases e;exact hh⟩
theorem jhi {w:World}{a:Addr}{s:String}:okHalt (w.noCell a s)=true:=by
 unfold World.noCell;split<;>rfl
theorem jjg {w:World}{a:Addr}{b:Bool}{h:Halt}(hf:w.farLoad P a b=.error h):okHalt h=true:=by
 unfold World.farLoad at hf;split at hf
 ·split at hf
  ·cases hf
  ·cases hf;rfl
 ·cases hf;exact jhi
theorem jgt {w:World}{a:Addr}{v:Value}{b:Bool}{h:Halt}(hf:w.farStore P a v b=.error h):okHalt h=true:=by
 unfold World.farStore at hf;split at hf
 ·split at hf
  ·cases hf
  ·cases hf;rfl
 ·cases hf;exact jhi
theorem jaq {w:World}{a:Addr}{wr sy:Bool}(h:a.block<w.heap.size):EvT w ⟨.cell a,wr,sy⟩:=.inl ⟨a,rfl,λh=>h.elim,h⟩
theorem jom {w:World}{a:Addr}{v:Value}(hc:w.cell? a=some v):a.block<w.heap.size:=by
 unfold World.cell? at hc;split at hc
 ·rename_i he
  exact(Array.getElem?_eq_some_iff.1 he).1
 ·cases hc
theorem jmz {w:World}{a:Addr}{b:Bool}{v:Value}{l:List Addr}(hf:w.farLoad P a b=.ok (v,l)):∀x∈l,x.block<w.heap.size:=by
 unfold World.farLoad at hf;split at hf
 ·split at hf
  ·rename_i r hv
   cases hf;obtain⟨_,h2,h3⟩:=jcx (X:=λ_=>False) hv;exact λx hx'=>by rw[h3 x hx'];exact h2
  ·cases hf
 ·cases hf
theorem jih {w w1:World}{a:Addr}{u:TypeId}{k:Addr}{v:Value}{b:Bool}{l:List Addr}(hf:World.viewStore P w a u k v b=.ok (w1,l)):∀x∈l,x.block<w.heap.size:=by
 unfold World.viewStore at hf;simp only[bind,Except.bind,pure,Except.pure,throw,throwThe,MonadExceptOf.throw]at hf;split at hf
 ·cases hf
 cases hs:World.seen P w a u k b with
 | error e=>rw[hs]at hf;cases hf
 | ok r=>
  rw[hs]at hf;have hc:=j9h hs;obtain⟨c,e,fr,first,like,cells⟩:=r;simp only at hf hc
  repeat' (split at hf<;>try (cases hf;done))
  all_goals
   cases hf;intro x hx;obtain⟨y,_,rfl⟩:=List.mem_map.1 hx;exact(Array.getElem?_eq_some_iff.1 hc).1
theorem jjh {w w1:World}{a:Addr}{v:Value}{b:Bool}{l:List Addr}(hf:w.farStore P a v b=.ok (w1,l)):∀x∈l,x.block<w.heap.size:=by
 unfold World.farStore at hf;split at hf
 ·split at hf
  ·rename_i r hv
   cases hf;exact jih hv
  ·cases hf
 ·cases hf
theorem Tm.lists:∀{t:Sem α}(w:World)(es:Array Event),Tm P Q t->Lists es Q (t.runT P w es):=by
 intro t;induction t with
 | pure a=>exact λw es h=>⟨⟨#[],by simp[Sem.runT],by simp⟩,(λx w1 e=>by cases e;exact h),λh' w1 e=>by cases e⟩
 | halt hh=>exact λw es h=>j2y h
 | load m a k ih=>
  intro w es h;simp only[Sem.runT];split
  ·rename_i v hc
   refine(ih v w _ (h v)).push (jaq ?_);have:=j3z (P:=P) (k v) w (es.push ⟨.cell a,false,m==.atomic⟩);have:=jom hc;omega
  ·split
   ·rename_i v l hf
    refine(ih v w _ (h v)).more λe he=>?_;obtain⟨x,hx,rfl⟩:=Array.mem_map.1 he;refine jaq ?_;have:=j3z (P:=P) (k v) w (es++l.toArray.map (⟨.cell ·,false,m==.atomic⟩));have:=jmz hf x (by simpa using hx);omega
   ·rename_i hf;exact j2y (jjg hf)
 | store m a v k ih=>
  intro w es h;have main:Lists es Q (match w.cell? a with
    | some _=>
     if w.frozen? a then(.halt (.unsupported (.unsafePointer "a write to bytes that a string shares")) w,es)
     else k.runT P (w.setCell a v) (es.push ⟨.cell a,true,m==.atomic⟩)
    | none=>match w.farStore P a v (m==.atomic)with
     | .ok (w,touched)=>k.runT P w (es++touched.toArray.map (⟨.cell ·,true,m==.atomic⟩))
     | .error h=>(.halt h w,es):Result α×Array Event):=by
   split
   ·rename_i u hc
    split
    ·exact j2y rfl
    ·refine(ih (w.setCell a v) _ h).push (jaq ?_);have h1:=j3z (P:=P) k (w.setCell a v) (es.push ⟨.cell a,true,m==.atomic⟩);have h2:=jom hc;have h3:(w.setCell a v).heap.size=w.heap.size:=by simp[World.setCell]
     omega
   ·split
    ·rename_i w1 l hf
     refine(ih w1 _ h).more λe he=>?_;obtain⟨x,hx,rfl⟩:=Array.mem_map.1 he;refine jaq ?_;have h1:=j3z (P:=P) k w1 (es++l.toArray.map (⟨.cell ·,true,m==.atomic⟩));have h2:=jjh hf x (by simpa using hx);have h3:=j5j hf;omega
    ·rename_i hf;exact j2y (jgt hf)
  cases v with
  | agg cs=>exact j2y rfl
  | tuple cs=>exact j2y rfl
  | _=>exact main
 | new o k ih=>exact λw es h=>ih _ _ es (h _)
 | shape r k ih=>exact λw es h=>ih _ w es (h _)
 | freeze a n k ih=>exact λw es h=>ih _ es h
 | frozen a k ih=>exact λw es h=>ih _ w es (h _)
 | getObj r k ih=>
  intro w es h;simp only[Sem.runT];split
  ·exact j2y rfl
  ·rename_i o _ ho
   refine(ih o w _ (h o)).push (.inr (.inl ⟨r,rfl,λh=>h.elim,?_,λh=>by cases h⟩));have h1:=j3z (P:=P) (k o) w (es.push ⟨.obj r,false,o.isChan⟩);have h2:=(Array.getElem?_eq_some_iff.1 ho).1;omega
  ·exact j2y rfl
 | setObj r o k ih=>exact λw es h=>h.elim
 | choose q k ih=>
  intro w es h;simp only[Sem.runT];split
  ·exact ih _ w es (h _)
  ·exact ih (q.cut (w.tape w.drawn q)) { w with drawn:=w.drawn+1 } es (h _)
 | sys c k ih=>exact λw es h=>h.elim
 | program k ih=>exact λw es h=>ih _ w es h
 | mark m k ih=>
  intro w es h;exact(ih w _ h.2).push (by rw[h.1];exact .inr (.inr (.inr (.inl rfl))))
end
class Tn (P:Program){α:Type}(t:Sem α):Prop where
 tm:Tm P (λ_=>True) t
section
variable {P:Program}{α β γ σ:Type}
instance jvx {t:Sem α}{f:α->Sem β} [h:Tn P t] [k:∀a,Tn P (f a)]:Tn P (t >>= f):=⟨Tm.bind' h.tm λa _=>(k a).tm⟩
theorem Tn.any {t:Sem α}{f:α->Sem β}(h:Tn P t)(k:∀a,Tn P (f a)):Tn P (t >>= f):=jvx
theorem tz {t:Sem α}{f:α->Sem β} [h:Tn P t](k:∀a,Tn P (f a)):Tn P (t >>= f):=jvx
instance jyr {t:Sem α}{f:α->β} [h:Tn P t]:Tn P (f <$> t):=by
 rw[map_eq_pure_bind];exact h.any λa=>⟨trivial⟩
instance jyo {a:α}:Tn P (pure a:Sem α):=⟨trivial⟩
instance jya {s:String}:Tn P (stuck s:Sem α):=⟨rfl⟩
instance jse {u:Unsupported}:Tn P (unsupported u:Sem α):=⟨rfl⟩
instance jwp {v:Value}:Tn P (goPanic v:Sem α):=⟨rfl⟩
instance j9r:Tn P (program:Sem Program):=⟨trivial⟩
instance jw1 {a:Addr}{m:Mode}:Tn P (load a m):=⟨λ_=>trivial⟩
instance ju6 {a:Addr}{v:Value}{m:Mode}:Tn P (store a v m):=⟨trivial⟩
instance jxr {o:Obj}:Tn P (newObj o):=⟨λ_=>trivial⟩
instance jy7 {r:Nat}:Tn P (shape r):=⟨λ_=>trivial⟩
instance jxk {a:Addr}{n:Nat}:Tn P (freeze a n):=⟨trivial⟩
instance jxl {a:Addr}:Tn P (frozen a):=⟨λ_=>trivial⟩
instance jxm {r:Nat}:Tn P (getObj r):=⟨λ_=>trivial⟩
instance jxj {q:Question}:Tn P (choose q):=⟨λ_=>trivial⟩
instance jyq {c:Prop} [Decidable c]{a b:Sem α} [ha:Tn P a] [hb:Tn P b]:Tn P (if c then a else b):=by
 split
 ·exact ha
 ·exact hb
instance jwb {t:TypeId}:Tn P (typeInfo t):=by
 unfold typeInfo
 repeat' (first|infer_instance|refine tz λ_=>?_|split)
instance ju8 {t:TypeId}:Tn P (underlying t):=by
 unfold underlying
 repeat' (first|infer_instance|refine tz λ_=>?_|split)
instance jxv {t:TypeId}:Tn P (sizeOf t):=by
 unfold sizeOf
 infer_instance
instance jy6 {t:TypeId}:Tn P (isAgg t):=by
 unfold isAgg
 repeat' (first|infer_instance|refine tz λ_=>?_|split)
instance juy {t:TypeId}:Tn P (zeroValue t):=by
 unfold zeroValue
 repeat' (first|infer_instance|refine tz λ_=>?_|split)
instance jie {t:TypeId}:Tn P (elemOf t):=by
 unfold elemOf
 repeat' (first|infer_instance|refine tz λ_=>?_|split)
instance jwv {t:TypeId}:Tn P (typeStr t):=by
 unfold typeStr
 infer_instance
instance jal {a:Addr}:∀{n i:Nat}{acc:Array Value},Tn P (loadCellsFrom a i n acc):=by
 intro n;induction n with
 | zero=>intro i acc;exact⟨trivial⟩
 | succ n ih=>
  intro i acc;unfold loadCellsFrom;exact jw1.any λv=>ih
instance juu {a:Addr}{n:Nat}:Tn P (loadCells a n):=jal
instance ju7 {a:Addr}:∀{vs:List Value}{i:Nat},Tn P (storeCells a vs i):=by
 intro vs;induction vs with
 | nil=>intro i;exact⟨trivial⟩
 | cons v vs ih=>
  intro i;unfold storeCells;exact ju6.any λ_=>ih
instance jws {t:TypeId}{a:Addr}:Tn P (loadVar t a):=by
 unfold loadVar
 infer_instance
instance jw8 {t:TypeId}{a:Addr}{v:Value}:Tn P (storeVar t a v):=by
 unfold storeVar
 infer_instance
instance jrw {e:TypeId}{cs:Array Value}:Tn P (newRow e cs):=by
 unfold newRow
 infer_instance
instance jif {t:TypeId}{v:Value}:Tn P (newVar t v):=jrw
instance jyn {t:TypeId}{cs:Array Value}{off:Nat}:Tn P (part t cs off):=by
 unfold part
 repeat' (first|infer_instance|refine tz λ_=>?_|split)
instance jrx {e:RuntimeError}:Tn P (runtimePanic e:Sem α):=by
 unfold runtimePanic;refine j9r.any λp=>?_;cases e<;>infer_instance
instance jsa {k:IntKind}{x y:Int}{c:BoundsCode}:Tn P (boundsPanic k x y c:Sem α):=by
 unfold boundsPanic
 infer_instance
instance jwi {v:Value}:Tn P (asIntOf v):=by
 unfold asIntOf
 repeat' (first|infer_instance|refine tz λ_=>?_|split)
instance jxz {v:Value}:Tn P (asInt v):=by
 unfold asInt
 infer_instance
instance jrq {v:Value}:Tn P (asBool v):=by
 unfold asBool
 repeat' (first|infer_instance|refine tz λ_=>?_|split)
instance jxy {v:Value}:Tn P (asAgg v):=by
 unfold asAgg
 repeat' (first|infer_instance|refine tz λ_=>?_|split)
instance jxh {v:Value}:Tn P (asAddr v):=by
 unfold asAddr
 repeat' (first|infer_instance|refine tz λ_=>?_|split)
instance jwa {v:Value}:Tn P (Instr.sureAddr v):=by
 unfold Instr.sureAddr
 repeat' (first|infer_instance|refine tz λ_=>?_|split)
instance jxw {r:Nat}:Tn P (viewAt r):=by
 unfold viewAt
 repeat' (first|infer_instance|refine tz λ_=>?_|split)
instance jw5 {r:Nat}:Tn P (numberAt r):=by
 unfold numberAt
 repeat' (first|infer_instance|refine tz λ_=>?_|split)
instance jrr {a:Addr}:Tn P (behindNumber a):=by
 unfold behindNumber
 infer_instance
instance jvw {a:Addr}{l:Bool}:Tn P (asNumber a l):=by
 unfold asNumber
 infer_instance
instance jxs {a:Addr}:Tn P (noView a):=by
 unfold noView
 infer_instance
instance jwj {r:Nat}:Tn P (cellsIn r):=by
 unfold cellsIn
 repeat' (first|infer_instance|refine tz λ_=>?_|split)
instance juv {a:Addr}:Tn P (stringish a):=by
 unfold stringish
 repeat' (first|infer_instance|refine tz λ_=>?_|split)
instance jw4 {a b:Addr}:Tn P (mayBeOne a b):=by
 unfold mayBeOne
 infer_instance
instance jw6 {a b:Addr}:Tn P (sameAddr a b):=by
 unfold sameAddr
 repeat' (first|infer_instance|refine tz λ_=>?_|split)
instance jsc {a b:Option Addr}:Tn P (samePointer a b):=by
 unfold samePointer
 repeat' (first|infer_instance|refine tz λ_=>?_|split)
theorem jw2 {f:γ->Sem β}(h:∀x,Tn P (f x)):∀l:List γ,Tn P (l.mapM f):=by
 intro l;induction l with
 | nil=>simp only[List.mapM_nil];exact inferInstance
 | cons x l ih=>
  simp only[List.mapM_cons];exact(h x).any λy=>ih.any λys=>inferInstance
instance jw3 {f:γ->Sem β} [h:∀x,Tn P (f x)]{xs:Array γ}:Tn P (xs.mapM f):=by
 have e:∀g:γ->Sem β,xs.mapM g=(xs.toList.mapM g) >>= λl=>pure l.toArray:=λg=>by
  rw[<- Array.toList_mapM,bind_map_left];simp
 rw[e];exact(jw2 h _).any λl=>inferInstance
theorem jru {f:γ->σ->Sem (ForInStep σ)}(h:∀a s,Tn P (f a s)):∀(l:List γ)(s:σ),Tn P (forIn l s f):=by
 intro l;induction l with
 | nil=>intro s;simp only[List.forIn_nil];exact inferInstance
 | cons a l ih=>
  intro s;simp only[List.forIn_cons];refine(h a s).any λr=>?_;cases r with
  | done s'=>exact inferInstance
  | yield s'=>exact ih s'
instance jrt {f:γ->σ->Sem (ForInStep σ)} [h:∀a s,Tn P (f a s)]{xs:Array γ}{s:σ}:Tn P (forIn xs s f):=by
 rw[<- Array.forIn_toList];exact jru h _ s
instance jym {f:Nat->σ->Sem (ForInStep σ)} [h:∀a s,Tn P (f a s)]{xs:Std.Legacy.Range}{s:σ}:Tn P (forIn xs s f):=by
 rw[Std.Legacy.Range.forIn_eq_forIn_range'];exact jru h _ s
end
open Go Go.Conc
section
variable {P:Program}{α β γ σ:Type}
instance jxx {e:TypeId}{z:Value}{b:Bool}:Tn P (Instr.alloc e b z):=by
 unfold Instr.alloc
 repeat' (first|infer_instance|refine tz λ_=>?_|split)
instance jyp {e:TypeId}{v:Value}:Tn P (Instr.box e v):=by
 unfold Instr.box
 infer_instance
instance jy1 {t:TypeId}{parts:Array (Nat×Value)}:Tn P (Instr.build t parts):=by
 unfold Instr.build
 repeat' (first|infer_instance|refine tz λ_=>?_|split)
instance jtz {t:TypeId}{len:Nat}{parts:Array (Nat×Value)}:Tn P (Instr.buildSlice t len parts):=by
 unfold Instr.buildSlice
 repeat' (first|infer_instance|refine tz λ_=>?_|split|dsimp only)
instance jxq {t:TypeId}{v:Value}:Tn P (Instr.loadAt t v):=by
 unfold Instr.loadAt
 infer_instance
instance jwu {t:TypeId}{v x:Value}:Tn P (Instr.storeAt t v x):=by
 unfold Instr.storeAt
 infer_instance
instance jxi {a:Addr}:Tn P (byteOf a):=by
 unfold byteOf
 repeat' (first|infer_instance|refine tz λ_=>?_|split|dsimp only)
instance jxt {a:Addr}{c b:Nat}:Tn P (partAt a c b):=by
 unfold partAt
 infer_instance
instance ju1 {a:Addr}{f:Field}:Tn P (fieldPlace a f):=by
 unfold fieldPlace
 infer_instance
instance jwo {s:TypeId}{v:Value}{f:Nat}:Tn P (Instr.fieldAt s v f):=by
 unfold Instr.fieldAt
 repeat' (first|infer_instance|refine tz λ_=>?_|split)
instance jy4 {t:TypeId}{v:Value}{f:Nat}:Tn P (Instr.field t v f):=by
 unfold Instr.field
 repeat' (first|infer_instance|refine tz λ_=>?_|split)
instance jy5 {t:TypeId}{v ix:Value}:Tn P (Instr.index t v ix):=by
 unfold Instr.index
 repeat' (first|infer_instance|refine tz λ_=>?_|split)
instance jwq {t:TypeId}{v ix:Value}:Tn P (Instr.indexAt t v ix):=by
 unfold Instr.indexAt
 repeat' (first|infer_instance|refine tz λ_=>?_|split)
instance ju5 {v:Value}{y:Nat}{c:BoundsCode}:Tn P (Instr.sliceBound v y c):=by
 unfold Instr.sliceBound
 infer_instance
instance jsd {s:Bool}{l c:Nat}{lo hi mx:Option Value}:Tn P (Instr.sliceBounds s l c lo hi mx):=by
 unfold Instr.sliceBounds;cases mx<;>cases hi<;>cases lo<;>infer_instance
instance jy9 {t:TypeId}{v:Value}{lo hi mx:Option Value}:Tn P (Instr.slice t v lo hi mx):=by
 unfold Instr.slice
 repeat' (first|infer_instance|refine tz λ_=>?_|split)
instance jwt {t:TypeId}{v:Value}{lo hi mx:Option Value}:Tn P (Instr.sliceAt t v lo hi mx):=by
 unfold Instr.sliceAt
 repeat' (first|infer_instance|refine tz λ_=>?_|split)
instance jwn {v:Value}{i:Nat}:Tn P (Instr.extract v i):=by
 unfold Instr.extract
 repeat' (first|infer_instance|refine tz λ_=>?_|split)
instance jw0 {op:BinOp}{k:IntKind}{x y:Int}:Tn P (Op.intArith op k x y):=by
 unfold Op.intArith
 repeat' (first|infer_instance|refine tz λ_=>?_|split)
instance jxo {op:BinOp}{k:IntKind}{x y:Int}:Tn P (Op.intDiv op k x y):=by
 unfold Op.intDiv
 repeat' (first|infer_instance|refine tz λ_=>?_|split)
instance jwr {op:BinOp}{k:IntKind}{x y:Int}:Tn P (Op.intBits op k x y):=by
 unfold Op.intBits
 repeat' (first|infer_instance|refine tz λ_=>?_|split)
instance jxn {op:BinOp}{x y:Int}:Tn P (Op.intCmp op x y):=by
 unfold Op.intCmp
 repeat' (first|infer_instance|refine tz λ_=>?_|split)
instance jy8 {op:BinOp}{k k':IntKind}{x y:Int}:Tn P (Op.shift op k x k' y):=by
 unfold Op.shift
 repeat' (first|infer_instance|refine tz λ_=>?_|split)
instance jw9 {op:BinOp}{x y:ByteArray}:Tn P (Op.stringOp op x y):=by
 unfold Op.stringOp
 repeat' (first|infer_instance|refine tz λ_=>?_|split)
instance jut:∀{d:Nat}{t:TypeId}{x y:Value},Tn P (Op.eqGuardIn d t x y):=by
 intro d;induction d with
 | zero=>intro t x y;exact⟨rfl⟩
 | succ d ih=>
  intro t x y;unfold Op.eqGuardIn
  repeat' (first|infer_instance|refine tz λ_=>?_|split|dsimp only)
instance jwm:∀{d:Nat}{t:TypeId}{x y:Value},Tn P (Op.equalIn d t x y):=by
 intro d;induction d with
 | zero=>intro t x y;exact⟨rfl⟩
 | succ d ih=>
  intro t x y;unfold Op.equalIn
  repeat' (first|infer_instance|refine tz λ_=>?_|split|dsimp only)
instance jy3 {t:TypeId}{x y:Value}:Tn P (Op.equal t x y):=by
 unfold Op.equal
 infer_instance
instance jwl {op:BinOp}{t:TypeId}{x y:Operand}{a b:Value}:Tn P (eqGuard op t x y a b):=by
 unfold eqGuard
 repeat' (first|infer_instance|refine tz λ_=>?_|split)
instance jux {ts:Array TypeId}{t:TypeId}{args:Array Value}:Tn P (Builtin.unsafeAdd_ ts t args):=by
 unfold Builtin.unsafeAdd_;obtain⟨l⟩:=args;rcases l with _|⟨a,_|⟨b,_|⟨c,l⟩⟩⟩
 ·exact⟨rfl⟩
 ·cases a<;>exact⟨rfl⟩
 ·cases a with
  | pointer ptr=>repeat' (first|infer_instance|refine tz λ_=>?_|split)
  | _=>exact⟨rfl⟩
 ·cases a<;>exact⟨rfl⟩
instance jrv {t:TypeId}{x y:Value}:Tn P (movedPointer t x y):=by
 unfold movedPointer
 repeat' (first|infer_instance|refine tz λ_=>?_|split)
instance jsb {t:TypeId}{x y:Value}:Tn P (movedNumber t x y):=by
 unfold movedNumber
 repeat' (first|infer_instance|refine tz λ_=>?_|split)
instance juw {a b:Addr}:Tn P (Op.twoPlaces a b):=by
 unfold Op.twoPlaces
 infer_instance
instance jwh {k:IntKind}{a b:Addr}:Tn P (Op.addrSub k a b):=by
 unfold Op.addrSub
 infer_instance
instance jwf {op:BinOp}{a b:Addr}:Tn P (Op.addrCmp op a b):=by
 unfold Op.addrCmp
 repeat' (first|infer_instance|refine tz λ_=>?_|split)
instance jwg {k:IntKind}{a:Addr}{n:Int}:Tn P (Op.addrMod k a n):=by
 unfold Op.addrMod
 repeat' (first|infer_instance|refine tz λ_=>?_|split)
instance ju2 {op:BinOp}{k:FloatKind}{a b:Nat}:Tn P (Op.floatArith op k a b):=by
 unfold Op.floatArith
 repeat' (first|infer_instance|refine tz λ_=>?_|split|dsimp only)
instance jvz {op:BinOp}{k:FloatKind}{a b:Nat}:Tn P (Op.floatCmp op k a b):=by
 unfold Op.floatCmp
 repeat' (first|infer_instance|refine tz λ_=>?_|split)
instance jrs {k k':FloatKind}{b:Nat}:Tn P (Conv.floatToFloat k b k'):=by
 unfold Conv.floatToFloat
 repeat' (first|infer_instance|refine tz λ_=>?_|split)
instance j8p {op:BinOp}{k:FloatKind}{a b:Nat}:Tn P (Op.Complex.arith op k a b):=by
 unfold Op.Complex.arith
 repeat' (first|infer_instance|refine tz λ_=>?_|split)
instance jyi {op:BinOp}{k:FloatKind}{a b:Nat}:Tn P (Op.Complex.cmp op k a b):=by
 unfold Op.Complex.cmp
 infer_instance
instance jy2 {k k':FloatKind}{a:Nat}:Tn P (Op.Complex.conv k a k'):=by
 unfold Op.Complex.conv
 repeat' (first|infer_instance|refine tz λ_=>?_|split)
instance jyh {a b:Nat}:Tn P (Op.Complex.add a b):=j8p
instance jyl {a b:Nat}:Tn P (Op.Complex.sub a b):=j8p
instance jyj {a b:Nat}:Tn P (Op.Complex.mul a b):=j8p
instance jyk {a b:Nat}:Tn P (Op.Complex.quo a b):=j8p
instance jvy {a b c d:Nat}:Tn P (Op.Complex.product a b c d):=by
 unfold Op.Complex.product
 infer_instance
instance ju0 {s a b c d:Nat}:Tn P (Op.Complex.corrected s a b c d):=by
 unfold Op.Complex.corrected
 infer_instance
instance jur {a b c d:Nat}:Tn P (Op.Complex.quotient a b c d):=by
 unfold Op.Complex.quotient
 repeat' (first|infer_instance|refine tz λ_=>?_|split)
instance jus {op:BinOp}{k:FloatKind}{a b c d:Nat}:Tn P (Op.complexOp op k a b c d):=by
 unfold Op.complexOp
 repeat' (first|infer_instance|refine tz λ_=>?_|split)
instance jy0 {op:BinOp}{t:TypeId}{x y:Value}:Tn P (binOp op t x y):=by
 unfold binOp
 repeat' (first|infer_instance|refine tz λ_=>?_|split)
instance jyb {op:UnOp}{x:Value}:Tn P (Op.unary op x):=by
 unfold Op.unary
 repeat' (first|infer_instance|refine tz λ_=>?_|split)
instance jsf {a:Addr}{u:TypeId}{n:Nat}:Tn P (variablesAt a u n):=by
 unfold variablesAt
 repeat' (first|infer_instance|refine tz λ_=>?_|split)
instance jxu {a:Addr}:Tn P (Conv.seenAt a):=by
 unfold Conv.seenAt
 repeat' (first|infer_instance|refine tz λ_=>?_|split)
instance joh {s d:TypeId}{x:Value}:Tn P (Conv.unsafePointer s d x):=by
 unfold Conv.unsafePointer
 repeat' (first|infer_instance|refine tz λ_=>?_|split)
instance jod {a:Addr}:Tn P (markStringish a):=by
 unfold markStringish
 repeat' (first|infer_instance|refine tz λ_=>?_|split)
instance joc {x:Value}:Tn P (Conv.bytesToString x):=by
 unfold Conv.bytesToString
 repeat' (first|infer_instance|refine tz λ_=>?_|split)
 exact Tn.any (jrt (h:=λc s=>by split<;>exact inferInstance)) λ_=>inferInstance
instance ju3 {k:FloatKind}{b:Nat}{d:IntKind}:Tn P (Conv.floatToInt k b d):=by
 unfold Conv.floatToInt
 repeat' (first|infer_instance|refine tz λ_=>?_|split)
instance ju4 {k:FloatKind}{n:Int}:Tn P (Conv.intToFloat k n):=by
 unfold Conv.intToFloat
 infer_instance
instance jof {e:TypeId}{s:ByteArray}:Tn P (Conv.stringToBytes e s):=by
 unfold Conv.stringToBytes
 infer_instance
instance jkf {k k':FloatKind}{a b:Nat}:Tn P (Conv.complexToComplex k a b k'):=by
 unfold Conv.complexToComplex
 repeat' (first|infer_instance|refine tz λ_=>?_|split)
instance jog {e:TypeId}{s:ByteArray}:Tn P (Conv.stringToRunes e s):=by
 unfold Conv.stringToRunes
 infer_instance
instance joe {x:Value}:Tn P (Conv.runesToString x):=by
 unfold Conv.runesToString
 repeat' (first|infer_instance|refine tz λ_=>?_|split)
 exact Tn.any (jrt (h:=λc s=>by split<;>exact inferInstance)) λ_=>inferInstance
instance jwk {s d:TypeId}{x:Value}:Tn P (convert s d x):=by
 unfold convert
 repeat' (first|infer_instance|refine tz λ_=>?_|split)
 all_goals exact⟨trivial⟩
instance jxp {ts:Array TypeId}{t:TypeId}{args:Array Value}:Tn P (Builtin.len_ ts t args):=by
 unfold Builtin.len_
 repeat' (first|infer_instance|refine tz λ_=>?_|split)
theorem jdm:∀(l:List FieldStep){t:TypeId}{x:Option Value},Tn P (followBlind l t x):=by
 intro l;induction l with
 | nil=>intro t x;exact⟨trivial⟩
 | cons s l ih=>
  intro t x
  haveI:=@ih
  unfold followBlind
  repeat' (first|infer_instance|refine tz λ_=>?_|split)
theorem jkg:∀(n:Nat){t:TypeId}{v:Value}{name:String},Tn P (nilAhead n t v name):=by
 intro n;induction n with
 | zero=>intro t v name;exact⟨trivial⟩
 | succ n ih=>
  intro t v name
  haveI:=@ih
  haveI:=@jdm P
  unfold nilAhead
  repeat' (first|infer_instance|refine tz λ_=>?_|split)
end
open Go Go.Conc
variable [Atom]
def okOpT (D:Nat->Bool):Op->Bool
 | .nilCheck _|.move _|.assign _|.box _ _|.load _ _|.unOp _ _ _|.convert _ _ _|.fieldAddr _ _ _|.field _ _ _|.extract _ _|.pick _ _ _|.alloc _|.build _ _|.buildSlice _ _ _|.store _ _ _|.binOp _ _ _ _ _|.slice _ _ _ _ _|.indexAddr _ _ _|.index _ _ _=>true
 | .call c=>match c.callee with
  | .value (.func f)=>D f
  | .builtin .len=>true
  | _=>false
 | _=>false
def okCodeT (D:Nat->Bool):Code->Bool
 | .skip|.ret|.exit _|.refuse _=>true
 | .region _ ops _=>ops.toList.all λo=>okOpT D o.op
 | .seq a b=>okCodeT D a&&okCodeT D b
 | .cond _ a b=>okCodeT D a&&okCodeT D b
 | .block _ b|.loop b=>okCodeT D b
 | _=>false
def okItemT (D:Nat->Bool):Item->Bool
 | .code c|.inLoop c=>okCodeT D c
 | .inBlock _=>true
 | .inRegion ops _=>ops.toList.all λo=>okOpT D o.op
 | _=>false
def OkD (P:Program)(D:Nat->Bool):Prop:=(P.follows .staticDataAhead=true/\∀g,P.stepOf g=none)/\∀f,D f=true->∃fn c,P.funcs[f]?=some fn/\fn.body=some c/\okCodeT D c=true/\fn.name ≠ "runtime.NumGoroutine"
structure DF (P:Program)(D:Nat->Bool)(fr:Frame):Prop where
 todo:∀i∈fr.todo,okItemT D i=true
 defers:fr.defers=[]
 kind:fr.kind=.normal
 round:fr.roundOf=none
 fn:∃fn,P.funcs[fr.fn]?=some fn
structure DG (P:Program)(D:Nat->Bool)(g:Goroutine):Prop where
 frame:DF P D g.frame
 callers:∀c∈g.callers,DF P D c
 status:g.status=.running
 dying:g.dying=none
 offers:g.offers=none
def TN (D:Nat->Bool):Next->Prop
 | .value _|.skip=>True
 | .enter f _=>D f=true
 | _=>False
section
variable {P:Program}{D:Nat->Bool}{α β:Type}{fr c0:Frame}{cs:List Frame}{w:World}{g:Goroutine}
theorem j28 {s:Sem Value}(h:Tn P s):Tm P (TN D) (do pure (.value (<- s))):=Tm.bind' h.tm λ_ _=>trivial
theorem jw7 {γ:Type}{s:Sem γ}(h:Tn P s):Tm P (TN D) (do let _<-s;pure .skip):=Tm.bind' h.tm λ_ _=>trivial
theorem jke (HD:OkD P D){f:Nat}(hf:D f=true){args:Array Value}:Tm P (TN D) (callFunc f args):=by
 obtain⟨fn,c,h1,h2,_,h4⟩:=HD.2 f hf;unfold callFunc;show Tm P (TN D) (match P.funcs[f]? with|none=>_|some fn=>_);rw[h1];have hn:(fn.name == "runtime.NumGoroutine")=false:=by simpa using h4
 simp only[hn,Bool.false_eq_true,if_false,h2,Option.isNone_some];exact hf
theorem jty {Q:α->Prop}{e:RuntimeError}:Tm P Q (runtimePanic e):=by
 unfold runtimePanic;refine Tm.bind' (j9r (P:=P)).tm λp _=>?_;cases e with
 | typeAssertion i c a m=>exact Tm.bind' (jie (P:=P)).tm λ_ _=>Tm.bind' (jif (P:=P)).tm λ_ _=>rfl
 | panicNil=>exact Tm.bind' (jie (P:=P)).tm λ_ _=>Tm.bind' (jif (P:=P)).tm λ_ _=>rfl
 | _=>exact rfl
theorem jrp (HD:OkD P D){ρ:Operand->Value}(hρ:∀f,ρ (.func f)=.func (.func f) #[] #[]){o:Oper}(ho:okOpT D o.op=true):Tm P (TN D) (execOp ρ o):=by
 unfold execOp;generalize o.op=op at ho ⊢;cases op with
 | call c=>
  obtain⟨callee,args,argTypes⟩:=c;cases callee with
  | value f=>
   cases f with
   | func f=>
    simp only[okOpT]at ho;simp only[resolve,hρ];show Tm P (TN D) (do let d<-Deferred.ofValue (.func (.func f) #[] #[]) _;invoke d.target d.args);unfold Deferred.ofValue;exact jke HD ho
   | _=>simp[okOpT]at ho
  | builtin b=>
   cases b with
   | len=>
    show Tm P (TN D) (do pure (.value (<- _)));exact j28 jxp
   | _=>simp[okOpT]at ho
  | invoke r n=>simp[okOpT]at ho
 | nilCheck x=>
  dsimp only;split
  ·exact jty
  ·exact jty
  ·exact jty
  ·split
   ·exact jty
   ·refine Tm.bind' (j9r (P:=P)).tm λp _=>Tm.bind' (jkg _).tm λr _=>?_;split
    ·exact rfl
    ·exact trivial
   ·exact trivial
  ·exact trivial
 | move x=>exact trivial
 | assign x=>exact trivial
 | pick c a b=>exact Tm.bind' (jrq (P:=P)).tm λ_ _=>trivial
 | store t a x=>exact jw7 inferInstance
 | binOp op t x y _=>exact j28 inferInstance
 | box _ _=>exact j28 inferInstance
 | load _ _=>exact j28 inferInstance
 | unOp _ _ _=>exact j28 inferInstance
 | convert _ _ _=>exact j28 inferInstance
 | fieldAddr _ _ _=>exact j28 inferInstance
 | field _ _ _=>exact j28 inferInstance
 | extract _ _=>exact j28 inferInstance
 | alloc _=>exact j28 inferInstance
 | build _ _=>exact j28 inferInstance
 | buildSlice _ _ _=>exact j28 inferInstance
 | slice _ _ _ _ _=>exact j28 inferInstance
 | indexAddr _ _ _=>exact j28 inferInstance
 | index _ _ _=>exact j28 inferInstance
 | _=>simp[okOpT]at ho
theorem DF.finish (h:DF P D fr){v:Value}:DF P D (fr.finish v):=by
 obtain⟨fn,tmps,todo,defers,mode,kind,ro⟩:=fr;obtain⟨h1,h2,h3,h4,h5⟩:=h;dsimp only at h1 h2 h3 h4 h5;have no:∀{i:Item} {k:List Item},todo=i::k->okItemT D i=true/\∀x∈k,okItemT D x=true:=λe=>by
  subst e;exact⟨h1 _ List.mem_cons_self,λx hx=>h1 x (List.mem_cons_of_mem _ hx)⟩
 unfold Frame.finish;dsimp only;split
 ·obtain⟨a,b⟩:=no rfl;exact⟨λx hx=>(List.mem_cons.1 hx).elim (λe=>e▸a) (b x),h2,h3,h4,h5⟩
 ·exact absurd (no rfl).1 (by simp[okItemT])
 ·exact absurd (no rfl).1 (by simp[okItemT])
 ·exact absurd (no rfl).1 (by simp[okItemT])
 ·exact absurd (no rfl).1 (by simp[okItemT])
 ·exact⟨h1,h2,h3,h4,h5⟩
theorem DF.raise (h:DF P D fr){ch:List PanicEntry}:DF P D (fr.raise ch):=by
 obtain⟨h1,h2,h3,h4,h5⟩:=h;unfold Frame.raise;split<;>exact⟨h1,h2,h3,h4,h5⟩
theorem DF.enter (HD:OkD P D){f:Nat}(hf:D f=true){args:Array Value}{kind:CallKind}(hk:kind=.normal:=by rfl):DF P D (Frame.enter P f args kind):=by
 subst hk;obtain⟨fn,c,h1,h2,h3,h4⟩:=HD.2 f hf;refine⟨λi hi=>?_,rfl,rfl,rfl,fn,h1⟩;simp only[Frame.enter,h1,Option.bind_some,List.mem_singleton]at hi;subst hi;rw[h2,Option.getD_some];exact h3
def Step2 (P:Program)(D:Nat->Bool)(c0:Frame)(w:World)(r r':GStep):Prop:=
 (∃(g1:Goroutine)(w1:World)(es:Array Event),r=.go g1 w1 es/\r'=.go (g1.over [c0]) w1 es/\DG P D g1/\w.heap.size<=w1.heap.size/\∀e∈es,EvT w1 e)\/((∃o w2 es,r=.ended o w2 es)/\∃o w2 es,r'=.ended o w2 es)
theorem j5k {fr1:Frame}{cs1:List Frame}{w1:World}{es:Array Event}(h1:DF P D fr1)(h2:∀c∈cs1,DF P D c)(hs:w.heap.size<=w1.heap.size)(he:∀e∈es,EvT w1 e) :
  Step2 P D c0 w (.go { frame:=fr1,callers:=cs1,status:=.running,dying:=none } w1 es) (.go { frame:=fr1,callers:=cs1++[c0],status:=.running,dying:=none } w1 es):=.inl ⟨_,_,_,rfl,rfl,⟨h1,h2,rfl,rfl,rfl⟩,hs,he⟩
theorem j6k {f:FuncId}{es:Array Event}{w1:World}(h:∀e∈es,EvT w1 e):∀e∈seen P f es++#[],EvT w1 e:=λe he=>h e (mem_seen (by simpa using he))
theorem jin (HD:OkD P D)(hf:DF P D fr)(hcs:∀c∈cs,DF P D c){s:Sem Next}(hs:Tm P (TN D) s) :
  Step2 P D c0 w (stepG.apply P true fr cs none s w) (stepG.apply P true fr (cs++[c0]) none s w):=by
 have hke:(fr.kind==.early)=false:=by rw[hf.kind];decide
 have hl:=hs.lists w #[];have hz:=j3z (P:=P) s w #[];unfold stepG.apply;generalize s.runT P w #[]=r at hl hz;obtain⟨r,es1⟩:=r;obtain⟨⟨new,hn,hev⟩,hq,hbad⟩:=hl;simp only[Array.empty_append]at hn;subst hn;simp only[if_true,hke,Bool.false_eq_true,if_false];cases r with
 | ok x w1=>
  have hx:=hq x w1 rfl;cases x with
  | value v=>exact j5k hf.finish hcs hz (j6k hev)
  | skip=>exact j5k hf.finish hcs hz (j6k hev)
  | enter f args=>
   refine j5k (DF.enter HD hx (hk:=?_)) (λc hc=>(List.mem_cons.1 hc).elim (λe=>e▸hf) (hcs c)) hz (j6k hev);split
   ·rename_i ht
    have:=hf.todo _ (by rw[ht];exact List.mem_cons_self);simp[okItemT]at this
   ·rfl
  | _=>exact hx.elim
 | halt hh w1=>
  have hb:=hbad hh w1 rfl;cases hh with
  | panic v=>exact j5k hf.raise hcs hz (j6k hev)
  | unsupported u=>
   cases u with
   | initOrder g=>
    have he:∀cs,early P fr cs none g w1=.ended (.unsupported (.initOrder g) (fr.pos P)) w1:=λcs=>by
     unfold early;simp only[HD.1.1,HD.1.2 g,Bool.not_true,Bool.false_eq_true,if_false]
    simp only[he];exact .inr ⟨⟨_,_,_,rfl⟩,⟨_,_,_,rfl⟩⟩
   | _=>exact .inr ⟨⟨_,_,_,rfl⟩,⟨_,_,_,rfl⟩⟩
  | stuck s=>exact .inr ⟨⟨_,_,_,rfl⟩,⟨_,_,_,rfl⟩⟩
  | _=>cases hb
theorem jem {fn:Func}{tmps:Array Value}:Tn P (results fn tmps):=by
 unfold results;exact Tn.any (jw3 (h:=λx=>by split<;>exact inferInstance)) λ_=>inferInstance
theorem ja7 (hf:DF P D fr)(hcs:∀c∈cs,DF P D c)(hne:cs≠[]):Step2 P D c0 w (unwind P true fr cs none w) (unwind P true fr (cs++[c0]) none w):=by
 obtain⟨fn,hfn⟩:=hf.fn;obtain⟨c,cs',rfl⟩:∃c cs',cs=c::cs':=by
  cases cs with
  | nil=>exact absurd rfl hne
  | cons c cs'=>exact⟨c,cs',rfl⟩
 have hc:=hcs c List.mem_cons_self;have hcs':∀x∈cs',DF P D x:=λx hx=>hcs x (List.mem_cons_of_mem _ hx);unfold unwind;simp only[hf.defers,List.cons_append];cases hmo:fr.mode with
 | run=>exact .inr ⟨⟨_,_,_,rfl⟩,⟨_,_,_,rfl⟩⟩
 | panicking chain=>
  have hcat:fr.catches P=false:=by unfold Frame.catches;rw[hfn]
  simp only[hcat,Bool.false_eq_true,if_false];exact j5k hc.raise hcs' (Nat.le_refl _) (by simp)
 | returning=>
  simp only[hfn];have hl:=(jem (P:=P) (fn:=fn) (tmps:=fr.tmps)).tm.lists w #[];have hz:=j3z (P:=P) (results fn fr.tmps) w #[];generalize(results fn fr.tmps).runT P w #[]=r at hl hz;obtain⟨r,es1⟩:=r;obtain⟨⟨new,hn,hev⟩,hq,hbad⟩:=hl;simp only[Array.empty_append]at hn;subst hn;cases r with
  | ok v w1=>
   simp only[doReturn,hf.kind];exact j5k hc.finish hcs' hz (j6k hev)
  | halt hh w1=>cases hh<;>exact .inr ⟨⟨_,_,_,rfl⟩,⟨_,_,_,rfl⟩⟩
theorem jct (HD:OkD P D)(hg:DG P D g)(hne:¬Leave g):Step2 P D c0 w (stepG P true g w) (stepG P true (g.over [c0]) w):=by
 replace hne:=j65 hne;obtain⟨⟨fn,tmps,todo,defers,mode,kind,ro⟩,cs,st,dy,off⟩:=g;obtain⟨hf,hcs,hst,hdy,hoff⟩:=hg;simp only at hf hcs hst hdy hoff hne;have hro:=hf.round;have hde:=hf.defers;simp only at hro hde;subst hst hdy hoff hro hde;have fin:∀{todo':List Item},(∀i∈todo',okItemT D i=true)->DF P D { fn,tmps,todo:=todo',defers:=[],mode:=.run,kind,roundOf:=none }:=λh=>⟨h,rfl,hf.kind,rfl,hf.fn⟩;have und:∀{fr1:Frame} {w1:World},DF P D fr1->w.heap.size<=w1.heap.size->Step2 P D c0 w (.go { frame:=fr1,callers:=cs,status:=.running,dying:=none } w1 #[]) (.go { frame:=fr1,callers:=cs++[c0],status:=.running,dying:=none } w1 #[]):=λh hs=>j5k h hcs hs (by simp);cases mode with
 | returning=>exact ja7 hf hcs (λhc=>by rcases hne hc with h1|h1;cases h1;exact h1 rfl)
 | panicking ch=>exact ja7 hf hcs (λhc=>by rcases hne hc with h1|h1;cases h1;exact h1 rfl)
 | run=>
  show Step2 P D c0 w (stepG.exec P true true { fn,tmps,todo,defers:=[],mode:=.run,kind,roundOf:=none } cs none w) (stepG.exec P true true { fn,tmps,todo,defers:=[],mode:=.run,kind,roundOf:=none } (cs++[c0]) none w);unfold stepG.exec;cases todo with
  | nil=>exact und ⟨hf.todo,rfl,hf.kind,rfl,hf.fn⟩ (Nat.le_refl _)
  | cons i k=>
   have hi:=hf.todo i List.mem_cons_self;have hk:∀x∈k,okItemT D x=true:=λx hx=>hf.todo x (List.mem_cons_of_mem _ hx);have one:∀{x:Item},okItemT D x=true->∀y∈x::k,okItemT D y=true:=λh y hy=>(List.mem_cons.1 hy).elim (λe=>e▸h) (hk y);have two:∀{x y:Item},okItemT D x=true->okItemT D y=true->∀z∈x::y::k,okItemT D z=true:=λh h' z hz=>(List.mem_cons.1 hz).elim (λe=>e▸h) (one h' z);have quit:Step2 P D c0 w (.go { frame:={ fn,tmps,todo:=i::k,defers:=[],mode:=.returning,kind,roundOf:=none },callers:=cs,status:=.running,dying:=none } w #[]) (.go { frame:={ fn,tmps,todo:=i::k,defers:=[],mode:=.returning,kind,roundOf:=none },callers:=cs++[c0],status:=.running,dying:=none } w #[]):=und ⟨hf.todo,rfl,hf.kind,rfl,hf.fn⟩ (Nat.le_refl _);cases i with
   | inBlock id=>exact und (fin hk) (Nat.le_refl _)
   | inLoop b=>exact und (fin (two hi hi)) (Nat.le_refl _)
   | inRegion ops l=>
    cases l with
    | nil=>exact und (fin hk) (Nat.le_refl _)
    | cons i l=>
     dsimp only;split
     ·unfold stepG.oper;cases ho:(ops[i]?)with
      | none=>simp only[Frame.oper?,ho];exact .inr ⟨⟨_,_,_,rfl⟩,⟨_,_,_,rfl⟩⟩
      | some o=>
       simp only[Frame.oper?,ho];have hoo:okOpT D o.op=true:=List.all_eq_true.1 hi o (by simpa using Array.mem_of_getElem? ho);exact jin HD hf hcs (jrp HD (λf=>rfl) hoo)
     ·exact und hf.finish (Nat.le_refl _)
   | code c=>
    cases c with
    | skip=>exact und (fin hk) (Nat.le_refl _)
    | ret=>exact quit
    | seq a b=>
     simp only[okItemT,okCodeT,Bool.and_eq_true]at hi;exact und (fin (two hi.1 hi.2)) (Nat.le_refl _)
    | block id b=>exact und (fin (two hi rfl)) (Nat.le_refl _)
    | loop b=>exact und (fin (two hi hi)) (Nat.le_refl _)
    | cond c a b=>
     simp only[okItemT,okCodeT,Bool.and_eq_true]at hi;dsimp only;split
     ·exact und (fin (one (by split;exact hi.1;exact hi.2))) (Nat.le_refl _)
     ·exact .inr ⟨⟨_,_,_,rfl⟩,⟨_,_,_,rfl⟩⟩
    | exit id=>
     dsimp only;cases he:exitTo id k with
     | none=>exact .inr ⟨⟨_,_,_,rfl⟩,⟨_,_,_,rfl⟩⟩
     | some k'=>exact und (fin λx hx=>hk x (jdz he x hx)) (Nat.le_refl _)
    | region id ops draw=>
     cases draw with
     | false=>exact und (fin (one hi)) (Nat.le_refl _)
     | true=>
      simp only[Bool.not_true,Bool.false_eq_true,if_false];have hz:=j3z (P:=P) (choose (.order fn id)) w #[];cases hr:(choose (.order fn id)).run P w with
      | ok t w1=>
       rw[Sem.runT_fst,hr]at hz;exact und (fin (one hi)) hz
      | halt hh w1=>exact .inr ⟨⟨_,_,_,rfl⟩,⟨_,_,_,rfl⟩⟩
    | refuse why=>exact .inr ⟨⟨_,_,_,rfl⟩,⟨_,_,_,rfl⟩⟩
    | rangeFunc f ps a b=>cases hi
    | scope b=>cases hi
    | label l=>cases hi
    | goto l=>cases hi
   | inScope b=>cases hi
   | inRangeFunc l=>cases hi
   | endRangeFunc l=>cases hi
   | beginRound=>cases hi
   | call d wr re sv=>cases hi
   | extern r a=>cases hi
end
end Go.Proofs.Mn
namespace Go.Proofs.Mn
open Go Go.Conc
open Go.ConcR (deafBehind_cons deafBehind_one)
variable [Atom]
theorem jmq {w:World}{e:Event}(h:EvT w e):EvL (shutL λ_=>False) w.heap.size e:=j43 (X:=λ_=>False) (λ_ h=>h) h (Nat.le_refl _)
section
variable {P:Program}{D:Nat->Bool}{f:FuncId}{fr c0 law:Frame}{cs:List Frame}{w:World}{g:Goroutine}{t:Trace}
theorem ji6 {a a':Goroutine}{w w':World}{es:Array Event}{q:Nat->Nat}(hr:a.status=.running)(h:stepG P true a w=.go a' w' es)(hs:w.heap.size<=w'.heap.size)(he:∀e∈es,EvT w' e)(hL:Leavers P t #[a] q)(hP:Past (shutL λ_=>False) w.heap.size t) :
  ∃t',runNT P 1 (solo a w) t=(.next (solo a' w'),t')/\Leavers P t' #[a'] q/\Past (shutL λ_=>False) w'.heap.size t':=by
 refine⟨t++MemOp.ofEvents 0 a.frame.fn a.frame.place es,by simp only[runNT,stepT_solo hr,runT_solo_go h],⟨λi g hi hg=>?_,λj hj=>?_⟩,(hP.mono hs).own λe h=>jmq (he e h)⟩
 ·have:i<1:=by simpa using(Array.getElem?_eq_some_iff.1 hg).1
  omega
 ·rw[Deaf_other t (g':=0) (by simp at hj;omega) _ (λop hop=>by obtain⟨e,_,rfl⟩:=Go.Conc.mem_ofEvents hop;rfl)];exact hL.above j (by simpa using hj)
theorem jrd {Shun:Loc->Prop}{B:Nat}{Ds:World->World->Array Event->Prop}{Stop:Goroutine->World->Prop}{q:Nat->Nat}(hD:∀w w' es,Ds w w' es->∀e∈es,EvL Shun B e):∀(n:Nat)(a:Goroutine)(w:World)(t:Trace),Goes P true AtRel Ds Stop n a w->Leavers P t #[a] q->Past Shun B t ->
  ∃k a' w' t',runNT P k (solo a w) t=(.next (solo a' w'),t')/\Stop a' w'/\Leavers P t' #[a'] q/\Past Shun B t':=by
 intro n;induction n with
 | zero=>exact λa w t h hL hP=>⟨0,a,w,t,rfl,h w (atRel_refl w),hL,hP⟩
 | succ n ih=>
  intro a w t h hL hP;rcases h with h|⟨hs,h⟩
  ·exact⟨0,a,w,t,rfl,h w (atRel_refl w),hL,hP⟩
  ·obtain⟨aq,wz,es,hgo,hd,hg⟩:=goes_elim (h w (atRel_refl w));obtain⟨k,a',w',t',hrun,hstop,hL',hP'⟩:=ih aq wz (t++MemOp.ofEvents 0 a.frame.fn a.frame.place es) hg ⟨λi g hi hg=>by
    have:i<1:=by simpa using(Array.getElem?_eq_some_iff.1 hg).1
    omega,λj hj=>by
    rw[Deaf_other t (g':=0) (by simp at hj;omega) _ (λop hop=>by obtain⟨e,_,rfl⟩:=Go.Conc.mem_ofEvents hop;rfl)];exact hL.above j (by simpa using hj)⟩ (hP.own (hD _ _ _ hd))
   exact⟨1+k,a',w',t',Go.ConcX.runNT_trans (by simp only[runNT,stepT_solo hs,runT_solo_go hgo]) hrun,hstop,hL',hP'⟩
theorem jp8 (h:DG P D g):g=G g.frame g.callers:=by
 obtain⟨fr,cs,st,dy,off⟩:=g;obtain⟨_,_,h1,h2,h3⟩:=h;simp only at h1 h2 h3;subst h1 h2 h3;rfl
theorem jnc (hg:DG P D g)(hl:Leave g) :
  (∃fr1 w1,step P (lone g.frame (g.callers++[net f]) w)=.next (lone fr1 [] w1)/\∃o w2,step P (lone fr1 [] w1)=.ended o w2)\/∃o w2,step P (lone g.frame (g.callers++[net f]) w)=.ended o w2:=by
 obtain⟨⟨fn,tmps,todo,defers,mode,kind,ro⟩,cs,st,dy,off⟩:=g;obtain⟨hc,hm,hd⟩:=hl;obtain⟨hf,_,_,_,_⟩:=hg;simp only at hc hm hd hf ⊢;have hro:=hf.round;have hk:=hf.kind;simp only at hro hk;subst hc hd hro hk;obtain⟨fnn,hfn⟩:=hf.fn;simp only at hfn;have e:∀w,(stepG P true { frame:={ fn,tmps,todo,defers:=[],mode,kind:=.normal,roundOf:=none },callers:=[net f],status:=.running,dying:=none } w)=unwind P true { fn,tmps,todo,defers:=[],mode,kind:=.normal,roundOf:=none } [net f] none w:=λw=>by
  cases mode with
  | run=>exact absurd rfl hm
  | _=>rfl
 cases mode with
 | run=>exact absurd rfl hm
 | panicking chain=>
  refine .inl ⟨(net f).raise chain,w,step_lone_go ?_,je9 P f chain w⟩;have:({ fn,tmps,todo,defers:=[],mode:=.panicking chain,kind:=.normal,roundOf:=none }:Frame).catches P=false:=by unfold Frame.catches;simp only[hfn]
  rw[show(([]:List Frame)++[net f])=[net f]from rfl,e];unfold unwind;simp only[this,Bool.false_eq_true,if_false,GStep.bare_go]
 | returning=>
  rw[show(([]:List Frame)++[net f])=[net f]from rfl];have hfst:=Sem.runT_fst P (results fnn tmps) w #[];generalize hrr:(results fnn tmps).runT P w #[]=r at hfst;obtain⟨r,es1⟩:=r;cases r with
  | ok v w1=>
   refine .inl ⟨net f,w1,step_lone_go ?_,jqr P f w1⟩;rw[e];unfold unwind;simp only[hfn,hrr];rfl
  | halt hh w1=>
   have:∃o w2,(stepG P true { frame:={ fn,tmps,todo,defers:=[],mode:=.returning,kind:=.normal,roundOf:=none },callers:=[net f],status:=.running,dying:=none } w).bare=.ended o w2:=by
    rw[e];unfold unwind;simp only[hfn,hrr];cases hh<;>exact⟨_,_,rfl⟩
   obtain⟨o,w2,h⟩:=this;exact .inr ⟨o,w2,step_lone_ended h⟩
theorem jmn (HD:OkD P D){fr2:Frame}{w2:World}{q:Nat->Nat}:∀(n:Nat)(g:Goroutine)(w:World)(t:Trace),DG P D g->runN P n (lone g.frame (g.callers++[net f]) w)=.next (lone fr2 [net f] w2)->Leavers P t #[g.over [law]] q->Past (shutL λ_=>False) w.heap.size t ->
  ∃N t',runNT P N (solo (g.over [law]) w) t=(.next (solo (G fr2 [law]) w2),t')/\DF P D fr2/\Leavers P t' #[G fr2 [law]] q/\Past (shutL λ_=>False) w2.heap.size t':=by
 intro n;induction n with
 | zero=>
  intro g w t hg h hL hP;have e:=jp8 hg;simp only[runN,Stepped.next.injEq]at h;obtain⟨h1,h2,rfl⟩:=jas h;have h3:g.callers=[]:=by simpa using h2
  have e2:g.over [law]=G fr2 [law]:=by rw[e,h3,h1];rfl
  rw[e2]at hL ⊢;exact⟨0,t,rfl,h1▸hg.frame,hL,hP⟩
 | succ n ih=>
  intro g w t hg h hL hP;have e:=jp8 hg;simp only[runN]at h;by_cases hl:Leave g
  ·exfalso;rcases jnc (f:=f) (w:=w) hg hl with⟨fr1,w1,hs,o,w3,hs2⟩|⟨o,w3,hs⟩
   ·rw[hs]at h;simp only at h;cases n with
    | zero=>
     simp only[runN,Stepped.next.injEq]at h;have:=(jas h).2.1;cases this
    | succ n=>simp only[runN,hs2]at h;cases h
   ·rw[hs]at h;cases h
  ·have hu:=jct (c0:=net f) (w:=w) HD hg hl;have hu2:=jct (c0:=law) (w:=w) HD hg hl;have eo:g.over [net f]={ frame:=g.frame,callers:=g.callers++[net f],status:=.running,dying:=none }:=by
    rw[e];rfl
   rw[eo]at hu;rcases hu with⟨g1,w1,es,h1,h2,hg1,hs1,hev⟩|⟨_,o,w3,es,h2⟩
   ·rcases hu2 with⟨g1',w1',es',h1',h2',_⟩|⟨⟨o,w3,es',h1'⟩,_⟩
    ·rw[h1]at h1';injection h1' with a1 a2 a3
     subst a1 a2 a3;have e1:=jp8 hg1;have hs:step P (lone g.frame (g.callers++[net f]) w)=.next (lone g1.frame (g1.callers++[net f]) w1):=step_lone_go (by
      rw[h2,e1];rfl)
     rw[hs]at h;obtain⟨t',r1,hL1,hP1⟩:=ji6 (a:=g.over [law]) hg.status h2' hs1 hev hL hP;obtain⟨N,t2,r2,hd,hL2,hP2⟩:=ih g1 w1 t' hg1 h hL1 hP1;exact⟨1+N,t2,Go.ConcX.runNT_trans r1 r2,hd,hL2,hP2⟩
    ·rw[h1]at h1';cases h1'
   ·have hs:step P (lone g.frame (g.callers++[net f]) w)=.ended o w3:=step_lone_ended (by rw[h2];rfl);rw[hs]at h;cases h
theorem jpc (HD:OkD P D)(hf:D f=true){args:Array Value}{R:Value->World->Prop}{q:Nat->Nat}(hc:Calls P f args w fun|.returned v,w2=>R v w2|_,_=>False)(hL:Leavers P t #[G (Frame.enter P f args .normal) [law]] q)(hP:Past (shutL λ_=>False) w.heap.size t) :
  ∃N v w2 t',runNT P N (solo (G (Frame.enter P f args .normal) [law]) w) t=(.next (solo (G (law.finish v) []) w2),t')/\R v w2/\Leavers P t' #[G (law.finish v) []] q/\Past (shutL λ_=>False) w2.heap.size t':=by
 obtain⟨e,w2,fr2,hR2,hcm,hfn,hlv⟩:=hc [net f];cases e with
 | panicked chain=>exact hR2.elim
 | outgrown=>exact hR2.elim
 | returned v=>
  obtain⟨n,hn⟩:=hcm;obtain⟨N,t',r,hd,hL2,hP2⟩:=jmn (law:=law) HD (q:=q) n (G (Frame.enter P f args .normal) []) w t ⟨DF.enter HD hf,by simp[G],rfl,rfl,rfl⟩ hn hL hP;obtain⟨hm,hde,hk,fn',hfn',hres⟩:=hlv;have hl:=(jem (P:=P) (fn:=fn') (tmps:=fr2.tmps)).tm.lists w2 #[];have hfst:=Sem.runT_fst P (results fn' fr2.tmps) w2 #[];rw[hres]at hfst;generalize hrr:(results fn' fr2.tmps).runT P w2 #[]=r2 at hl hfst;obtain⟨r2,es⟩:=r2;simp only at hfst;subst hfst;obtain⟨⟨new,hnw,hev⟩,_⟩:=hl;simp only[Array.empty_append]at hnw;subst hnw;have hst:stepG P true (G fr2 [law]) w2=.go (G (law.finish v) []) w2 (seen P fr2.fn es++#[]):=by
   obtain⟨gfn,tmps,todo,defers,mode,kind,ro⟩:=fr2;simp only at hm hde hk hfn' hrr ⊢;have hk2:=hd.kind;simp only at hk2;subst hm hde hk2;show unwind P true { fn:=gfn,tmps,todo,defers:=[],mode:=.returning,kind:=.normal,roundOf:=ro } [law] none w2=_;unfold unwind;simp only[hfn',hrr];rfl
  obtain⟨t2,r3,hL3,hP3⟩:=ji6 (a:=G fr2 [law]) rfl hst (Nat.le_refl _) (j6k hev) hL2 hP2;exact⟨N+1,v,w2,t2,Go.ConcX.runNT_trans r r3,hR2,hL3,hP3⟩
end
end Go.Proofs.Mn
