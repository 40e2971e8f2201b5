/-
  A part of the proof.
-/
import Derived.Test.YtbcegllhelfijaaGreatDoorY00
set_option linter.all false
set_option maxRecDepth 100000
set_option maxHeartbeats 8000000
namespace Go.Proofs.Mn
open Go Go.Conc
variable [Atom]
section
variable {P' P:Program}{X:Nat->Prop}{α β:Type}{Q:α->Prop}
theorem jot {γ:Type}{f f':γ->Sem β}{R:β->Prop}(h:∀x,Cl P' P X R (f x) (f' x)):∀xs:Array γ,Cl P' P X (λys=>∀y∈ys,R y) (xs.mapM f) (xs.mapM f'):=by
 intro xs;have key:∀l:List γ,Cl P' P X (λys=>∀y∈ys,R y) (l.mapM f) (l.mapM f'):=by
  intro l;induction l with
  | nil=>simp only[List.mapM_nil];exact j7 (by simp)
  | cons x l ih=>
   simp only[List.mapM_cons];exact(h x).bind λy hy=>ih.bind λys hys=>j7 (by intro z hz;simp at hz;rcases hz with rfl|hz;exact hy;exact hys z hz)
 have e:∀g:γ->Sem β,xs.mapM g=(xs.toList.mapM g) >>= λl=>pure l.toArray:=λg=>by
  rw[<- Array.toList_mapM,bind_map_left];simp
 rw[e,e];exact(key _).bind λl hl=>j7 (by simpa using hl)
theorem j91 {place:Nat->Option (Nat×Nat)}:∀(l:List (Nat×Value))(cells cs:Array Value),(∀v∈cells,CV X v)->(∀p∈l,CV X p.2)->Instr.fill place cells l=some cs->∀v∈cs,CV X v:=by
 intro l;induction l with
 | nil=>intro cells cs hc _ h;simp only[Instr.fill,Option.some.injEq]at h;subst h;exact hc
 | cons p l ih=>
  intro cells cs hc hl h;obtain⟨i,v⟩:=p;simp only[Instr.fill]at h;split at h
  ·cases h
  ·split at h
   ·cases h
   ·refine ih _ cs ?_ (λp hp=>hl p (by simp[hp])) h;have hv:=j2q (hl (i,v) (by simp));have key:∀(zs:List (Value×Nat)) (acc:Array Value),(∀v∈acc,CV X v)->(∀z∈zs,CV X z.1)->∀off:Nat,∀x∈zs.foldl (λcs (c,j)=>cs.setIfInBounds (off+j) c) acc,CV X x:=by
     intro zs;induction zs with
     | nil=>intro acc ha _ off;exact ha
     | cons z zs ihz=>
      intro acc ha hz off;refine ihz _ ?_ (λz' hz'=>hz z' (by simp[hz'])) off;intro x hx;rcases Array.mem_or_eq_of_mem_setIfInBounds hx with h1|h1
      ·exact ha x h1
      ·rw[h1];exact hz z (by simp)
    intro x hx;rw[<- Array.foldl_toList]at hx;exact key _ cells hc (λz hz=>by
     have hz':z∈v.cells.toList.zipIdx:=by simpa using hz
     rw[List.mem_zipIdx_iff_getElem?]at hz';exact hv _ (by simpa using List.mem_of_getElem? hz')) _ x hx
theorem jsi (H:Pair P' P X){e:TypeId}:Cl P' P X (CV X) (Instr.alloc e true (.tuple #[])) (Instr.alloc e true (.tuple #[])):=by
 unfold Instr.alloc;exact(jd H).bind λv hv=>(j7k hv).bind λa ha=>j7 (j1w ha)
theorem jwz {e:TypeId}{v:Value}(h:CV X v):Cl P' P X (CV X) (Instr.box e v) (Instr.box e v):=(j7k h).bind λa ha=>j7 (j1w ha)
theorem jsl (H:Pair P' P X){t:TypeId}{parts:Array (Nat×Value)}(h:∀p∈parts,CV X p.2):Cl P' P X (CV X) (Instr.build t parts) (Instr.build t parts):=by
 unfold Instr.build;refine(jd H).bind λz hz=>(j9 H).bind λd _=>?_;have hz':=j2q hz;have hp:∀p∈parts.toList,CV X p.2:=λp hp=>h p (by simpa using hp);split
 ·refine Cl.bind (Q:=λ_=>True) ((jot (R:=λ_=>True) (λf=>(jh H).bind λ_ _=>j7 trivial) _).mono λ_ _=>trivial) λplaces _=>?_;split
  ·rename_i cells hc;exact j7 (.agg (j91 _ _ _ hz' hp hc))
  ·exact j8
 ·refine(jh H).bind λsize _=>?_;split
  ·rename_i cells hc;exact j7 (.agg (j91 _ _ _ hz' hp hc))
  ·exact j8
 ·exact j8
theorem jet (H:Pair P' P X){t:TypeId}{len:Nat}{parts:Array (Nat×Value)}(h:∀p∈parts,CV X p.2):Cl P' P X (CV X) (Instr.buildSlice t len parts) (Instr.buildSlice t len parts):=by
 have hp:∀p∈parts.toList,CV X p.2:=λp hp=>h p (by simpa using hp);unfold Instr.buildSlice;refine(j9 H).bind λd _=>?_;split
 ·rename_i elem _
  refine(jh H).bind λsize _=>?_;dsimp only;split
  ·exact jj
  ·have rest:∀zero:Array Value,(∀v∈zero,CV X v)->Cl P' P X (CV X) (match Instr.fill (λi=>some (i*size,size)) ((Array.range (len*size)).map (λx=>zero[x % zero.size]!)) parts.toList with
     | some cells=>do pure (Value.slice (some (<- newRow elem cells)) len len)
     | _=>stuck "buildSlice: a part of the wrong size") (match Instr.fill (λi=>some (i*size,size)) ((Array.range (len*size)).map (λx=>zero[x % zero.size]!)) parts.toList with
     | some cells=>do pure (Value.slice (some (<- newRow elem cells)) len len)
     | _=>stuck "buildSlice: a part of the wrong size"):=λzero hz=>by
    split
    ·rename_i cells hc
     exact(j3l (j91 _ _ _ (j7u hz) hp hc)).bind λa ha=>j7 (j1x ha)
    ·exact j8
   split
   ·exact jr (rest _ (by simp))
   ·exact(jd H).bind λv hv=>jr (rest _ (j2q hv))
 ·exact j8
theorem jos (H:Pair P' P X){t:TypeId}{v:Value}(h:CV X v):Cl P' P X (CV X) (Instr.loadAt t v) (Instr.loadAt t v):=(jg h).bind λa ha=>j41 H ha
theorem jmf (H:Pair P' P X){t:TypeId}{v x:Value}(h:CV X v)(hx:CV X x):Cl P' P X (λ_=>True) (Instr.storeAt t v x) (Instr.storeAt t v x):=(jg h).bind λa ha=>jj0 H ha hx
theorem j46 (H:Pair P' P X){a:Addr}(h:¬X a.block):Cl P' P X (λ_=>True) (byteOf a) (byteOf a):=by
 unfold byteOf;split
 ·exact j7 trivial
 ·refine j12 ((jbd h).bind λ_ _=>(j2n h).bind λs _=>?_);split
  ·dsimp only;rw[j2b H.tables,j3r H.tables,j4m H.tables,j2w H.tables];split
   ·exact j7 trivial
   ·split
    ·exact j7 trivial
    ·exact j8
  ·exact j8
theorem jow (H:Pair P' P X){a:Addr}(h:¬X a.block){c b:Nat}:Cl P' P X (λr=>¬X r.block) (partAt a c b) (partAt a c b):=by
 unfold partAt;refine(j46 H h).bind λ_ _=>?_;dsimp only;refine(j46 H (a:={ block:=a.block,off:=a.off+c }) h).bind λ_ _=>j7 ?_;split<;>exact h
theorem j55 (H:Pair P' P X){a:Addr}(h:¬X a.block){f:Field}:Cl P' P X (λr=>¬X r.block) (fieldPlace a f) (fieldPlace a f):=by
 unfold fieldPlace;refine(jh H).bind λn _=>?_;split
 ·exact jow H h
 ·exact j7 (by rw[j2r];exact h)
theorem jmc (H:Pair P' P X){s:TypeId}{v:Value}(h:CV X v){f:Nat}:Cl P' P X (CV X) (Instr.fieldAt s v f) (Instr.fieldAt s v f):=by
 unfold Instr.fieldAt;refine(j9 H).bind λd _=>?_;split
 ·split
  ·exact(jg h).bind λa ha=>(j55 H ha).bind λb hb=>j7 (j1w hb)
  ·exact j8
 ·exact j8
theorem jsn (H:Pair P' P X){t:TypeId}{v:Value}(h:CV X v){f:Nat}:Cl P' P X (CV X) (Instr.field t v f) (Instr.field t v f):=by
 unfold Instr.field;refine(j9 H).bind λd _=>?_;split
 ·split
  ·exact(jsj h).bind λcs hcs=>j3s H hcs
  ·exact j8
 ·exact j8
theorem jso (H:Pair P' P X){t:TypeId}{v ix:Value}(h:CV X v):Cl P' P X (CV X) (Instr.index t v ix) (Instr.index t v ix):=by
 unfold Instr.index;refine ji.bind λki _=>(j9 H).bind λd _=>?_;split
 ·split
  ·exact(jh H).bind λn _=>j3s H (j3d h)
  ·exact jb H
 ·split
  ·exact j7 .int
  ·exact jb H
 ·exact j8
theorem jmd (H:Pair P' P X){t:TypeId}{v ix:Value}(h:CV X v):Cl P' P X (CV X) (Instr.indexAt t v ix) (Instr.indexAt t v ix):=by
 unfold Instr.indexAt
 repeat' (first|with_reducible (first|exact j8|exact jn|exact j14|exact jy|exact j16|exact j11|exact j15|exact j10|exact ja H|exact j1h H|exact jb H|refine jr ?_|refine Cl.bind (by first|exact j9 H|exact jh H|exact je H|exact jd H|exact ji|exact jv|exact jp|exact jl|exact jk|exact jq H) λ_ _=>?_)|with_reducible (refine Cl.bind (jg (by assumption)) λ_ _=>?_)|split|dsimp only)
 all_goals refine j7 (j1w ?_)
 all_goals rw[j2r]
 all_goals first|exact j26 (by assumption)|(rename_i e _ _ _;cases e;assumption)
theorem jey (H:Pair P' P X){v:Value}{y:Nat}{c:BoundsCode}:Cl P' P X (λ_=>True) (Instr.sliceBound v y c) (Instr.sliceBound v y c):=by
 unfold Instr.sliceBound;refine ji.bind λki _=>?_;dsimp only;split
 ·exact j7 trivial
 ·exact jb H
theorem j3h (H:Pair P' P X){s:Bool}{l c:Nat}{lo hi mx:Option Value}:Cl P' P X (λ_=>True) (Instr.sliceBounds s l c lo hi mx) (Instr.sliceBounds s l c lo hi mx):=by
 unfold Instr.sliceBounds;cases mx<;>cases hi<;>cases lo<;>dsimp only<;>repeat' (first|with_reducible (first|exact jn|refine jr ?_|refine Cl.bind (jey H) λ_ _=>?_)|exact j7 trivial)
theorem jsr (H:Pair P' P X){t:TypeId}{v:Value}(h:CV X v){lo hi mx:Option Value}:Cl P' P X (CV X) (Instr.slice t v lo hi mx) (Instr.slice t v lo hi mx):=by
 unfold Instr.slice;refine(j9 H).bind λd _=>?_;split
 ·split
  ·exact j8
  ·exact(j3h H).bind λr _=>j7 .string
 ·refine(j3h H).bind λr _=>?_;dsimp only;refine(jh H).bind λn _=>j7 (.slice ?_);intro x e;split at e
  ·subst e;exact j26 h
  ·obtain⟨y,hy,rfl⟩:=Option.map_eq_some_iff.1 e;subst hy;rw[j2r];exact j26 h
 ·refine(j5u H h).bind λa ha=>(j9 H).bind λd _=>?_;split
  ·refine(j3h H).bind λr _=>?_;dsimp only;refine(jh H).bind λn _=>j7 (j1x ?_);split
   ·exact ha
   ·rw[j2r];exact ha
  ·exact j8
 ·exact j8
theorem jme (H:Pair P' P X){t:TypeId}{v:Value}(h:CV X v){lo hi mx:Option Value}:Cl P' P X (CV X) (Instr.sliceAt t v lo hi mx) (Instr.sliceAt t v lo hi mx):=by
 unfold Instr.sliceAt;refine(j9 H).bind λd _=>?_;split
 ·refine(jg h).bind λa ha=>(j3h H).bind λr _=>?_;dsimp only;refine(jh H).bind λn _=>j7 (j1x ?_);split
  ·exact ha
  ·rw[j2r];exact ha
 ·exact jsr H h
theorem jgg (H:Pair P' P X){t:TypeId}{l c:Value}:Cl P' P X (CV X) (Instr.makeSlice t l c) (Instr.makeSlice t l c):=by
 unfold Instr.makeSlice
 repeat' (first|with_reducible (first|exact j8|exact jn|exact j14|exact jy|exact j16|exact j11|exact j15|exact j10|exact ja H|exact j1h H|exact jb H|refine jr ?_|refine Cl.bind (by first|exact j9 H|exact jh H|exact je H|exact jd H|exact ji|exact jv|exact jp|exact jl|exact jk|exact jq H) λ_ _=>?_)|with_reducible (refine Cl.bind (jg (by assumption)) λ_ _=>?_)|split|dsimp only)
 ·exact(j3l (j7u (by simp))).bind λa ha=>j7 (j1x ha)
 ·exact(j3l (j7u (j2q (by assumption)))).bind λa ha=>j7 (j1x ha)
theorem jag (H:Pair P' P X){t:TypeId}{v:Value}(ht:t≠Atom.t)(h:CV X v):Cl P' P X (CV X) (Instr.makeInterface t v) (Instr.makeInterface t v):=by
 unfold Instr.makeInterface;refine(j9 H).bind λd _=>?_;split
 ·exact j8
 ·exact j7 (.iface ht h)
theorem jmb {v:Value}(h:CV X v){i:Nat}:Cl P' P X (CV X) (Instr.extract v i) (Instr.extract v i):=by
 unfold Instr.extract;split
 ·split
  ·rename_i x hx;exact j7 (j4p (jsv h) hx)
  ·exact j8
 ·exact j8
theorem jsq (H:Pair P' P X){t:TypeId}{v:Value}(h:CV X v):Cl P' P X (CV X) (Instr.range t v) (Instr.range t v):=by
 unfold Instr.range;have k:∀o,CO X o->Cl P' P X (CV X) (do pure (.pointer (some ⟨<- newObj o,0,none⟩)):Sem Value) (do pure (.pointer (some ⟨<- newObj o,0,none⟩))):=λo ho=>(j5x ho).bind λr hr=>j7 (j1w (a:=⟨r,0,none⟩) hr);refine(j9 H).bind λd _=>?_;split
 ·exact jr (k (.stringIter _ 0) trivial)
 ·exact jr (k (.mapIter none 0 #[] 0) (by intro r e;cases e))
 ·rename_i m _
  have hm:¬X m:=by cases h with|map h=>exact h _ rfl
  refine(j48 hm).bind λo ho=>?_;split
  ·exact jr (k (.mapIter (some m) _ #[] _) (by intro r e;cases e;exact hm))
  ·exact jn
 ·exact jn
theorem jv5 {v:Value}(h:CV X v){t:TypeId}:Cl P' P X (CV X) (Instr.next v true t) (Instr.next v true t):=by
 unfold Instr.next;dsimp only;split
 ·rename_i r s
  have hr:¬X r:=j1m h;refine(j48 hr).bind λo ho=>?_;split
  ·split
   ·refine(jox (o:=.stringIter _ _) hr trivial rfl).bind λ_ _=>j7 (.tuple ?_);intro x hx;simp at hx;rcases hx with rfl|rfl|rfl<;>first|exact .bool|exact .int
   ·exact j7 (.tuple (by intro x hx;simp at hx;subst hx;exact .bool))
  ·rename_i e;cases e
  ·rename_i e;cases e
  ·exact j8
 ·exact j8
theorem jez (H:Pair P' P X){v:Value}(h:CV X v){t u:TypeId}{ok:Bool}(hu:u≠Atom.t):Cl P' P X (CV X) (Instr.typeAssert v t u ok) (Instr.typeAssert v t u ok):=by
 have holds:∀x,CV X x->Cl P' P X (CV X) (pure (if ok then .tuple #[x,.bool true]else x):Sem Value) (pure (if ok then .tuple #[x,.bool true]else x)):=λx hx=>j7 (by
  split
  ·exact .tuple (by intro y hy;simp at hy;rcases hy with rfl|rfl;exact hx;exact .bool)
  ·exact hx)
 have fails:∀(s d:Option TypeId) (m:String),Cl P' P X (CV X) (do if ok then pure (.tuple #[<- zeroValue u,.bool false])else runtimePanic (.typeAssertion s d u m):Sem Value) (do if ok then pure (.tuple #[<- zeroValue u,.bool false])else runtimePanic (.typeAssertion s d u m)):=λs d m=>by
  split
  ·exact(jd H).bind λz hz=>j7 (.tuple (by intro y hy;simp at hy;rcases hy with rfl|rfl;exact hz;exact .bool))
  ·exact ja H
 unfold Instr.typeAssert;dsimp only;refine(j9 H).bind λd _=>?_;split
 ·exact fails _ _ _
 ·refine(je H).bind λi _=>?_;split
  ·exact holds _ h
  ·exact fails _ _ _
 ·exact fails _ _ _
 ·split
  ·rcases j5b h with⟨_,h⟩|⟨rfl,rfl⟩
   ·exact holds _ h
   ·simp_all
  ·exact fails _ _ _
 ·exact j8
theorem jsp (H:Pair P' P X){v:Value}(h:CV X v):Cl P' P X (CV X) (Instr.panic v) (Instr.panic v):=by
 unfold Instr.panic;split
 ·exact j2m h
 ·refine Cl.bind (Q:=λ_=>True) ?_ λn _=>?_
  ·unfold Instr.panicnil;refine jx0.bind λr _=>?_;split
   ·refine j12 ?_;rw[jrm H.tables];exact j7 trivial
   ·exact j8
  ·split
   ·exact j2m .nilIface
   ·exact ja H
 ·exact j8
end
end Go.Proofs.Mn
namespace Go.Proofs.Mn
open Go Go.Conc
variable [Atom]
section
variable {P' P:Program}{X:Nat->Prop}{α β:Type}{Q:α->Prop}
theorem j58 {op:BinOp}{k:IntKind}{x y:Int}:Cl P' P X (CV X) (Op.intArith op k x y) (Op.intArith op k x y):=by
 unfold Op.intArith;split<;>first|exact j7 .int|exact j8
theorem jge (H:Pair P' P X){op:BinOp}{k:IntKind}{x y:Int}:Cl P' P X (CV X) (Op.intDiv op k x y) (Op.intDiv op k x y):=by
 unfold Op.intDiv
 repeat' (first|with_reducible (first|exact j8|exact jn|exact j14|exact jy|exact j16|exact j11|exact j15|exact j10|exact ja H|exact j1h H|exact jb H|refine jr ?_|refine Cl.bind (by first|exact j9 H|exact jh H|exact je H|exact jd H|exact ji|exact jv|exact jp|exact jl|exact jk|exact jq H) λ_ _=>?_)|with_reducible (refine Cl.bind (jg (by assumption)) λ_ _=>?_)|split|dsimp only)
 all_goals exact j7 .int
theorem jdt {op:BinOp}{k:IntKind}{x y:Int}:Cl P' P X (CV X) (Op.intBits op k x y) (Op.intBits op k x y):=by
 unfold Op.intBits;dsimp only;split<;>first|exact j7 .int|exact j8
theorem jor {op:BinOp}{x y:Int}:Cl P' P X (CV X) (Op.intCmp op x y) (Op.intCmp op x y):=by
 unfold Op.intCmp;split<;>first|exact j7 .bool|exact j8
theorem jkv (H:Pair P' P X){op:BinOp}{k k':IntKind}{x y:Int}:Cl P' P X (CV X) (Op.shift op k x k' y) (Op.shift op k x k' y):=by
 unfold Op.shift
 repeat' (first|with_reducible (first|exact j8|exact jn|exact j14|exact jy|exact j16|exact j11|exact j15|exact j10|exact ja H|exact j1h H|exact jb H|refine jr ?_|refine Cl.bind (by first|exact j9 H|exact jh H|exact je H|exact jd H|exact ji|exact jv|exact jp|exact jl|exact jk|exact jq H) λ_ _=>?_)|with_reducible (refine Cl.bind (jg (by assumption)) λ_ _=>?_)|split|dsimp only)
 all_goals exact j7 .int
theorem jbg {op:BinOp}{x y:ByteArray}:Cl P' P X (CV X) (Op.stringOp op x y) (Op.stringOp op x y):=by
 unfold Op.stringOp;dsimp only;split
 ·split
  ·exact jj
  ·exact j7 .string
 all_goals first|exact j7 .bool|exact j8
theorem jkr {γ σ:Type}{I:σ->Prop}{f f':γ->σ->Sem (ForInStep σ)}:∀(l:List γ)(s:σ),I s->(∀a∈l,∀s,I s->Cl P' P X (λr=>∀s',r=.done s'\/r=.yield s'->I s') (f a s) (f' a s))->Cl P' P X I (forIn l s f) (forIn l s f'):=by
 intro l;induction l with
 | nil=>intro s hs _;simp only[List.forIn_nil];exact j7 hs
 | cons a l ih=>
  intro s hs h;simp only[List.forIn_cons];refine(h a (by simp) s hs).bind λr hr=>?_;cases r with
  | done s'=>exact j7 (hr s' (.inl rfl))
  | yield s'=>exact ih s' (hr s' (.inr rfl)) λb hb=>h b (by simp[hb])
theorem j7j {γ σ:Type}{I:σ->Prop}{f f':γ->σ->Sem (ForInStep σ)}(xs:Array γ)(s:σ)(hs:I s)(h:∀a∈xs,∀s,I s->Cl P' P X (λr=>∀s',r=.done s'\/r=.yield s'->I s') (f a s) (f' a s)):Cl P' P X I (forIn xs s f) (forIn xs s f'):=by
 rw[<- Array.forIn_toList,<- Array.forIn_toList];exact jkr _ _ hs λa ha=>h a (by simpa using ha)
theorem jgc {σ:Type}{I:σ->Prop}{f f':Nat->σ->Sem (ForInStep σ)}(xs:Std.Legacy.Range)(s:σ)(hs:I s)(h:∀a s,I s->Cl P' P X (λr=>∀s',r=.done s'\/r=.yield s'->I s') (f a s) (f' a s)):Cl P' P X I (forIn xs s f) (forIn xs s f'):=by
 rw[Std.Legacy.Range.forIn_eq_forIn_range',Std.Legacy.Range.forIn_eq_forIn_range'];exact jkr _ _ hs λa _=>h a
theorem j9s (H:Pair P' P X):∀(d:Nat){t:TypeId}{x y:Value},CV X x->CV X y->Cl P' P X (λ_=>True) (Op.eqGuardIn d t x y) (Op.eqGuardIn d t x y):=by
 intro d;induction d with
 | zero=>intro t x y _ _;exact jj
 | succ d ih=>
  intro t x y hx hy;unfold Op.eqGuardIn;refine(j9 H).bind λ_ _=>?_;split
  ·exact j7 trivial
  ·refine Cl.bind (Q:=λ_=>True) (j7j (I:=λ_=>True) _ _ trivial λf _ s _=>?_) λr _=>?_
   ·repeat' (first|with_reducible (first|exact j8|exact jn|exact j14|exact jy|exact j16|exact j11|exact j15|exact j10|exact ja H|exact j1h H|exact jb H|refine jr ?_|refine Cl.bind (j3s H (j3d hx)) λ_ hp=>?_|refine Cl.bind (j3s H (j3d hy)) λ_ hq=>?_|refine Cl.bind (ih (by assumption) (by assumption)) λ_ _=>?_|refine Cl.bind (by first|exact j9 H|exact jh H|exact je H|exact jd H|exact ji|exact jv|exact jp|exact jl|exact jk|exact jq H) λ_ _=>?_)|with_reducible (refine Cl.bind (jg (by assumption)) λ_ _=>?_)|split|dsimp only)
    all_goals exact j7 (λ_ _=>trivial)
   ·repeat' (first|with_reducible (first|exact j8|exact jn|exact j14|exact jy|exact j16|exact j11|exact j15|exact j10|exact ja H|exact j1h H|exact jb H|refine jr ?_|refine Cl.bind (by first|exact j9 H|exact jh H|exact je H|exact jd H|exact ji|exact jv|exact jp|exact jl|exact jk|exact jq H) λ_ _=>?_)|with_reducible (refine Cl.bind (jg (by assumption)) λ_ _=>?_)|split|dsimp only)
    all_goals exact j7 trivial
  ·refine(jh H).bind λn _=>?_;refine Cl.bind (Q:=λ_=>True) (jgc (I:=λ_=>True) _ _ trivial λf s _=>?_) λr _=>?_
   ·repeat' (first|with_reducible (first|exact j8|exact jn|exact j14|exact jy|exact j16|exact j11|exact j15|exact j10|exact ja H|exact j1h H|exact jb H|refine jr ?_|refine Cl.bind (j3s H (j3d hx)) λ_ hp=>?_|refine Cl.bind (j3s H (j3d hy)) λ_ hq=>?_|refine Cl.bind (ih (by assumption) (by assumption)) λ_ _=>?_|refine Cl.bind (by first|exact j9 H|exact jh H|exact je H|exact jd H|exact ji|exact jv|exact jp|exact jl|exact jk|exact jq H) λ_ _=>?_)|with_reducible (refine Cl.bind (jg (by assumption)) λ_ _=>?_)|split|dsimp only)
    all_goals exact j7 (λ_ _=>trivial)
   ·repeat' (first|with_reducible (first|exact j8|exact jn|exact j14|exact jy|exact j16|exact j11|exact j15|exact j10|exact ja H|exact j1h H|exact jb H|refine jr ?_|refine Cl.bind (by first|exact j9 H|exact jh H|exact je H|exact jd H|exact ji|exact jv|exact jp|exact jl|exact jk|exact jq H) λ_ _=>?_)|with_reducible (refine Cl.bind (jg (by assumption)) λ_ _=>?_)|split|dsimp only)
    all_goals exact j7 trivial
  ·exact j7 trivial
theorem jma (H:Pair P' P X):∀(d:Nat){t:TypeId}{x y:Value},CV X x->CV X y->Cl P' P X (λ_=>True) (Op.equalIn d t x y) (Op.equalIn d t x y):=by
 intro d;induction d with
 | zero=>intro t x y _ _;exact jj
 | succ d ih=>
  intro t x y hx hy;unfold Op.equalIn;refine(j9 H).bind λ_ _=>?_;split;all_goals first|exact j7 trivial|exact j8|exact jj|skip
  ·repeat' (first|with_reducible (first|exact j8|exact jn|exact j14|exact jy|exact j16|exact j11|exact j15|exact j10|exact ja H|exact j1h H|exact jb H|refine jr ?_|refine Cl.bind (by first|exact j9 H|exact jh H|exact je H|exact jd H|exact ji|exact jv|exact jp|exact jl|exact jk|exact jq H) λ_ _=>?_)|with_reducible (refine Cl.bind (jg (by assumption)) λ_ _=>?_)|split|dsimp only)
   all_goals exact j7 trivial
  ·refine(j13 (j1m hx)).bind λa ha=>(j13 (j1m hy)).bind λb hb=>?_;refine j12 ?_;rw[j69 H.tables]
   repeat' (first|with_reducible (first|exact j8|exact jn|exact j14|exact jy|exact j16|exact j11|exact j15|exact j10|exact ja H|exact j1h H|exact jb H|refine jr ?_|refine Cl.bind (j46 H ha) λ_ _=>?_|refine Cl.bind (j46 H hb) λ_ _=>?_|refine Cl.bind (by first|exact j9 H|exact jh H|exact je H|exact jd H|exact ji|exact jv|exact jp|exact jl|exact jk|exact jq H) λ_ _=>?_)|with_reducible (refine Cl.bind (jg (by assumption)) λ_ _=>?_)|split|dsimp only)
   all_goals exact j7 trivial
  ·repeat' (first|with_reducible (first|exact j8|exact jn|exact j14|exact jy|exact j16|exact j11|exact j15|exact j10|exact ja H|exact j1h H|exact jb H|refine jr ?_|refine Cl.bind (by first|exact j9 H|exact jh H|exact je H|exact jd H|exact ji|exact jv|exact jp|exact jl|exact jk|exact jq H) λ_ _=>?_)|with_reducible (refine Cl.bind (jg (by assumption)) λ_ _=>?_)|split|dsimp only)
   all_goals exact j7 trivial
  ·repeat' (first|with_reducible (first|exact j8|exact jn|exact j14|exact jy|exact j16|exact j11|exact j15|exact j10|exact ja H|exact j1h H|exact jb H|refine jr ?_|refine Cl.bind (by first|exact j9 H|exact jh H|exact je H|exact jd H|exact ji|exact jv|exact jp|exact jl|exact jk|exact jq H) λ_ _=>?_)|with_reducible (refine Cl.bind (jg (by assumption)) λ_ _=>?_)|split|dsimp only)
   all_goals exact j7 trivial
  ·refine(jh H).bind λn _=>?_;split
   ·exact jbf (j1m hx) (j1m hy)
   ·split
    ·exact j7 trivial
    ·exact jl.bind λ_ _=>j7 trivial
  ·exact jd4 hx hy
  ·split
   ·exact j7 trivial
   ·refine(je H).bind λi _=>?_;split
    ·refine j12 (j12 ?_);rw[j8n H.tables,j2w H.tables];split
     ·exact j24
     ·exact(jmg H).bind λ_ _=>ja H
    ·rcases j5b hx with⟨h1,hx⟩|⟨h1,h2⟩<;>rcases j5b hy with⟨h3,hy⟩|⟨h3,h4⟩
     ·exact ih hx hy
     ·simp_all
     ·simp_all
     ·subst h1 h2 h4;exact H.eqAtom _
  ·refine j12 ?_;rw[j3a H.tables];split
   ·exact j24
   ·refine Cl.bind (Q:=λ_=>True) (j7j (I:=λ_=>True) _ _ trivial λf _ s _=>?_) λr _=>?_
    ·repeat' (first|with_reducible (first|exact j8|exact jn|exact j14|exact jy|exact j16|exact j11|exact j15|exact j10|exact ja H|exact j1h H|exact jb H|refine jr ?_|refine Cl.bind (j3s H (j3d hx)) λ_ hp=>?_|refine Cl.bind (j3s H (j3d hy)) λ_ hq=>?_|refine Cl.bind (ih (by assumption) (by assumption)) λ_ _=>?_|refine Cl.bind (by first|exact j9 H|exact jh H|exact je H|exact jd H|exact ji|exact jv|exact jp|exact jl|exact jk|exact jq H) λ_ _=>?_)|with_reducible (refine Cl.bind (jg (by assumption)) λ_ _=>?_)|split|dsimp only)
     all_goals exact j7 (λ_ _=>trivial)
    ·repeat' (first|with_reducible (first|exact j8|exact jn|exact j14|exact jy|exact j16|exact j11|exact j15|exact j10|exact ja H|exact j1h H|exact jb H|refine jr ?_|refine Cl.bind (by first|exact j9 H|exact jh H|exact je H|exact jd H|exact ji|exact jv|exact jp|exact jl|exact jk|exact jq H) λ_ _=>?_)|with_reducible (refine Cl.bind (jg (by assumption)) λ_ _=>?_)|split|dsimp only)
     all_goals exact j7 trivial
  ·refine(jh H).bind λn _=>?_;refine Cl.bind (Q:=λ_=>True) (jgc (I:=λ_=>True) _ _ trivial λf s _=>?_) λr _=>?_
   ·repeat' (first|with_reducible (first|exact j8|exact jn|exact j14|exact jy|exact j16|exact j11|exact j15|exact j10|exact ja H|exact j1h H|exact jb H|refine jr ?_|refine Cl.bind (j3s H (j3d hx)) λ_ hp=>?_|refine Cl.bind (j3s H (j3d hy)) λ_ hq=>?_|refine Cl.bind (ih (by assumption) (by assumption)) λ_ _=>?_|refine Cl.bind (by first|exact j9 H|exact jh H|exact je H|exact jd H|exact ji|exact jv|exact jp|exact jl|exact jk|exact jq H) λ_ _=>?_)|with_reducible (refine Cl.bind (jg (by assumption)) λ_ _=>?_)|split|dsimp only)
    all_goals exact j7 (λ_ _=>trivial)
   ·repeat' (first|with_reducible (first|exact j8|exact jn|exact j14|exact jy|exact j16|exact j11|exact j15|exact j10|exact ja H|exact j1h H|exact jb H|refine jr ?_|refine Cl.bind (by first|exact j9 H|exact jh H|exact je H|exact jd H|exact ji|exact jv|exact jp|exact jl|exact jk|exact jq H) λ_ _=>?_)|with_reducible (refine Cl.bind (jg (by assumption)) λ_ _=>?_)|split|dsimp only)
    all_goals exact j7 trivial
theorem jkq (H:Pair P' P X){t:TypeId}{x y:Value}(hx:CV X x)(hy:CV X y):Cl P' P X (λ_=>True) (Op.equal t x y) (Op.equal t x y):=jma H _ hx hy
theorem jm9 (H:Pair P' P X){op:BinOp}{t:TypeId}{x y:Operand}{a b:Value}(ha:CV X a)(hb:CV X b):Cl P' P X (λ_=>True) (eqGuard op t x y a b) (eqGuard op t x y a b):=by
 unfold eqGuard
 repeat' (first|with_reducible (first|exact j8|exact jn|exact j14|exact jy|exact j16|exact j11|exact j15|exact j10|exact ja H|exact j1h H|exact jb H|refine jr ?_|refine Cl.bind (j9s H _ ha hb) λ_ _=>?_|refine Cl.bind (by first|exact j9 H|exact jh H|exact je H|exact jd H|exact ji|exact jv|exact jp|exact jl|exact jk|exact jq H) λ_ _=>?_)|with_reducible (refine Cl.bind (jg (by assumption)) λ_ _=>?_)|split|dsimp only)
 all_goals first|exact j7 trivial|skip
 all_goals refine j12 (j12 ?_)
 all_goals rw[j8m H.tables,j2w H.tables]
 repeat' (first|with_reducible (first|exact j8|exact jn|exact j14|exact jy|exact j16|exact j11|exact j15|exact j10|exact ja H|exact j1h H|exact jb H|refine jr ?_|refine Cl.bind (j9s H _ ha hb) λ_ _=>?_|refine Cl.bind (by first|exact j9 H|exact jh H|exact je H|exact jd H|exact ji|exact jv|exact jp|exact jl|exact jk|exact jq H) λ_ _=>?_)|with_reducible (refine Cl.bind (jg (by assumption)) λ_ _=>?_)|split|dsimp only)
 all_goals exact j7 trivial
theorem jdv {a:Addr}(h:¬X a.block):Cl P' P X (λ_=>True) (viewAt a.block) (viewAt a.block):=(jbi h).mono λ_ _=>trivial
theorem j5y (H:Pair P' P X){ts:Array TypeId}{t:TypeId}{args:Array Value}(h:∀v∈args,CV X v):Cl P' P X (CV X) (Builtin.unsafeAdd_ ts t args) (Builtin.unsafeAdd_ ts t args):=by
 unfold Builtin.unsafeAdd_;obtain⟨l⟩:=args;rcases l with _|⟨a,_|⟨b,_|⟨c,l⟩⟩⟩
 ·exact j8
 ·cases a<;>exact j8
 ·cases a with
  | pointer ptr=>?_
  | _=>exact j8
  have hp:CV X (.pointer ptr):=h _ (by simp);refine Cl.bind (jv (v:=b)) λn _=>?_
  repeat' (first|with_reducible (first|exact j8|exact jn|exact j14|exact jy|exact j16|exact j11|exact j15|exact j10|exact ja H|exact j1h H|exact jb H|refine jr ?_|refine Cl.bind (jdv (j1m hp)) λ_ _=>?_|refine Cl.bind (j2n (j1m hp)) λ_ _=>?_|exact j7 hp|refine Cl.bind (by first|exact j9 H|exact jh H|exact je H|exact jd H|exact ji|exact jv|exact jp|exact jl|exact jk|exact jq H) λ_ _=>?_)|with_reducible (refine Cl.bind (jg (by assumption)) λ_ _=>?_)|split|dsimp only)
  all_goals refine j12 ?_
  all_goals rw[j8l H.tables,j2w H.tables,j2b H.tables]
  repeat' (first|with_reducible (first|exact j8|exact jn|exact j14|exact jy|exact j16|exact j11|exact j15|exact j10|exact ja H|exact j1h H|exact jb H|refine jr ?_|refine Cl.bind (by first|exact j9 H|exact jh H|exact je H|exact jd H|exact ji|exact jv|exact jp|exact jl|exact jk|exact jq H) λ_ _=>?_)|with_reducible (refine Cl.bind (jg (by assumption)) λ_ _=>?_)|split|dsimp only)
  all_goals exact j7 (.pointer λy e=>by cases e;have:=j1m hp;exact this)
 ·cases a<;>exact j8
theorem jbc (H:Pair P' P X){t:TypeId}{x y:Value}(hx:CV X x)(hy:CV X y):Cl P' P X (CV X) (movedPointer t x y) (movedPointer t x y):=by
 unfold movedPointer;have k:=j5y H (ts:=#[]) (t:=t) (args:=#[x,y]) (by intro v hv;simp at hv;rcases hv with rfl|rfl;exact hx;exact hy)
 repeat' (first|with_reducible (first|exact j8|exact jn|exact j14|exact jy|exact j16|exact j11|exact j15|exact j10|exact ja H|exact j1h H|exact jb H|refine jr ?_|refine Cl.bind (jbe (j1m hx)) λ_ _=>?_|exact k|refine Cl.bind (by first|exact j9 H|exact jh H|exact je H|exact jd H|exact ji|exact jv|exact jp|exact jl|exact jk|exact jq H) λ_ _=>?_)|with_reducible (refine Cl.bind (jg (by assumption)) λ_ _=>?_)|split|dsimp only)
theorem j4n (H:Pair P' P X){t:TypeId}{x y:Value}(hx:CV X x)(hy:CV X y):Cl P' P X (CV X) (movedNumber t x y) (movedNumber t x y):=by
 unfold movedNumber;have k:=j5y H (ts:=#[]) (t:=t) (args:=#[x,y]) (by intro v hv;simp at hv;rcases hv with rfl|rfl;exact hx;exact hy);have k2:∀a:Addr,¬X a.block->Cl P' P X (CV X) (Builtin.unsafeAdd_ #[] t #[.pointer (some a),y]) (Builtin.unsafeAdd_ #[] t #[.pointer (some a),y]):=λa ha=>j5y H (by intro v hv;simp at hv;rcases hv with rfl|rfl;exact j1w ha;exact hy)
 repeat' (first|with_reducible (first|exact j8|exact jn|exact j14|exact jy|exact j16|exact j11|exact j15|exact j10|exact ja H|exact j1h H|exact jb H|refine jr ?_|refine Cl.bind (j13 (j1m hx)) λr hr=>?_|refine Cl.bind (k2 _ (by assumption)) λv hv=>?_|exact k|refine Cl.bind (by first|exact j9 H|exact jh H|exact je H|exact jd H|exact ji|exact jv|exact jp|exact jl|exact jk|exact jq H) λ_ _=>?_)|with_reducible (refine Cl.bind (jg (by assumption)) λ_ _=>?_)|split|dsimp only)
 all_goals first|exact jb7 (j1m (by assumption))|exact j7 (by assumption)
theorem j9u (H:Pair P' P X){a b:Addr}(ha:¬X a.block)(hb:¬X b.block):Cl P' P X (λ_=>True) (Op.twoPlaces a b) (Op.twoPlaces a b):=by
 unfold Op.twoPlaces;refine j12 ?_;rw[j69 H.tables]
 repeat' (first|with_reducible (first|exact j8|exact jn|exact j14|exact jy|exact j16|exact j11|exact j15|exact j10|exact ja H|exact j1h H|exact jb H|refine jr ?_|refine Cl.bind (j46 H ha) λ_ _=>?_|refine Cl.bind (j46 H hb) λ_ _=>?_|refine Cl.bind (by first|exact j9 H|exact jh H|exact je H|exact jd H|exact ji|exact jv|exact jp|exact jl|exact jk|exact jq H) λ_ _=>?_)|with_reducible (refine Cl.bind (jg (by assumption)) λ_ _=>?_)|split|dsimp only)
 all_goals exact j7 trivial
theorem jm5 (H:Pair P' P X){k:IntKind}{a b:Addr}(ha:¬X a.block)(hb:¬X b.block):Cl P' P X (CV X) (Op.addrSub k a b) (Op.addrSub k a b):=(j9u H ha hb).bind λ_ _=>j7 .int
theorem j6d (H:Pair P' P X){op:BinOp}{a b:Addr}(ha:¬X a.block)(hb:¬X b.block):Cl P' P X (CV X) (Op.addrCmp op a b) (Op.addrCmp op a b):=by
 unfold Op.addrCmp;refine(j9u H ha hb).bind λ_ _=>?_;dsimp only;split<;>first|exact j7 .bool|exact jj
theorem j8w (H:Pair P' P X){k:IntKind}{a:Addr}{n:Int}(ha:¬X a.block):Cl P' P X (CV X) (Op.addrMod k a n) (Op.addrMod k a n):=by
 unfold Op.addrMod
 repeat' (first|with_reducible (first|exact j8|exact jn|exact j14|exact jy|exact j16|exact j11|exact j15|exact j10|exact ja H|exact j1h H|exact jb H|refine jr ?_|refine Cl.bind (j2n ha) λ_ _=>?_|refine Cl.bind (j46 H ha) λ_ _=>?_|refine Cl.bind (by first|exact j9 H|exact jh H|exact je H|exact jd H|exact ji|exact jv|exact jp|exact jl|exact jk|exact jq H) λ_ _=>?_)|with_reducible (refine Cl.bind (jg (by assumption)) λ_ _=>?_)|split|dsimp only)
 all_goals exact j7 .int
theorem j7i {op:BinOp}{k:FloatKind}{a b:Nat}:Cl P' P X (CV X) (Op.floatArith op k a b) (Op.floatArith op k a b):=by
 unfold Op.floatArith
 repeat' (first|with_reducible (first|exact j8|exact jn|exact j14|exact jy|exact j16|exact j11|exact j15|exact j10|exact ja H|exact j1h H|exact jb H|refine jr ?_|refine Cl.bind (by first|exact j9 H|exact jh H|exact je H|exact jd H|exact ji|exact jv|exact jp|exact jl|exact jk|exact jq H) λ_ _=>?_)|with_reducible (refine Cl.bind (jg (by assumption)) λ_ _=>?_)|split|dsimp only)
 all_goals exact j7 .float
theorem jb9 {op:BinOp}{k:FloatKind}{a b:Nat}:Cl P' P X (CV X) (Op.floatCmp op k a b) (Op.floatCmp op k a b):=by
 unfold Op.floatCmp
 repeat' (first|with_reducible (first|exact j8|exact jn|exact j14|exact jy|exact j16|exact j11|exact j15|exact j10|exact ja H|exact j1h H|exact jb H|refine jr ?_|refine Cl.bind (by first|exact j9 H|exact jh H|exact je H|exact jd H|exact ji|exact jv|exact jp|exact jl|exact jk|exact jq H) λ_ _=>?_)|with_reducible (refine Cl.bind (jg (by assumption)) λ_ _=>?_)|split|dsimp only)
 all_goals first|exact j7 .bool|exact j8
theorem j47 {k k':FloatKind}{b:Nat}:Cl P' P X (CV X) (Conv.floatToFloat k b k') (Conv.floatToFloat k b k'):=by
 unfold Conv.floatToFloat
 repeat' (first|with_reducible (first|exact j8|exact jn|exact j14|exact jy|exact j16|exact j11|exact j15|exact j10|exact ja H|exact j1h H|exact jb H|refine jr ?_|refine Cl.bind (by first|exact j9 H|exact jh H|exact je H|exact jd H|exact ji|exact jv|exact jp|exact jl|exact jk|exact jq H) λ_ _=>?_)|with_reducible (refine Cl.bind (jg (by assumption)) λ_ _=>?_)|split|dsimp only)
 all_goals exact j7 .float
theorem j7g {op:BinOp}{k:FloatKind}{a b:Nat}:Cl P' P X (λ_=>True) (Op.Complex.arith op k a b) (Op.Complex.arith op k a b):=by
 unfold Op.Complex.arith;refine j7i.bind λ_ _=>?_;split<;>first|exact j7 trivial|exact j8
theorem jop {op:BinOp}{k:FloatKind}{a b:Nat}:Cl P' P X (λ_=>True) (Op.Complex.cmp op k a b) (Op.Complex.cmp op k a b):=jb9.bind λ_ _=>jp
theorem jsm {k k':FloatKind}{a:Nat}:Cl P' P X (λ_=>True) (Op.Complex.conv k a k') (Op.Complex.conv k a k'):=by
 unfold Op.Complex.conv;split
 ·exact j7 trivial
 ·refine j47.bind λ_ _=>?_;split<;>first|exact j7 trivial|exact j8
theorem jiw {a b c d:Nat}:Cl P' P X (λ_=>True) (Op.Complex.product a b c d) (Op.Complex.product a b c d):=by
 unfold Op.Complex.product Op.Complex.add Op.Complex.sub Op.Complex.mul
 repeat' (first|with_reducible (first|exact j8|exact jn|exact j14|exact jy|exact j16|exact j11|exact j15|exact j10|exact ja H|exact j1h H|exact jb H|refine jr ?_|refine Cl.bind (by first|exact j7g|exact j9 H|exact jh H|exact je H|exact jd H|exact ji|exact jv|exact jp|exact jl|exact jk|exact jq H) λ_ _=>?_)|with_reducible (refine Cl.bind (jg (by assumption)) λ_ _=>?_)|split|dsimp only)
 all_goals exact j7 trivial
theorem jeu {s a b c d:Nat}:Cl P' P X (λ_=>True) (Op.Complex.corrected s a b c d) (Op.Complex.corrected s a b c d):=by
 unfold Op.Complex.corrected Op.Complex.add Op.Complex.sub Op.Complex.mul
 repeat' (first|with_reducible (first|exact j8|exact jn|exact j14|exact jy|exact j16|exact j11|exact j15|exact j10|exact ja H|exact j1h H|exact jb H|refine jr ?_|refine Cl.bind (by first|exact j7g|exact j9 H|exact jh H|exact je H|exact jd H|exact ji|exact jv|exact jp|exact jl|exact jk|exact jq H) λ_ _=>?_)|with_reducible (refine Cl.bind (jg (by assumption)) λ_ _=>?_)|split|dsimp only)
 all_goals exact j7 trivial
theorem jg9 {a b c d:Nat}:Cl P' P X (λ_=>True) (Op.Complex.quotient a b c d) (Op.Complex.quotient a b c d):=by
 unfold Op.Complex.quotient Op.Complex.add Op.Complex.sub Op.Complex.mul Op.Complex.quo
 repeat' (first|with_reducible (first|exact j8|exact jn|exact j14|exact jy|exact j16|exact j11|exact j15|exact j10|exact ja H|exact j1h H|exact jb H|refine jr ?_|refine Cl.bind j7g λ_ _=>?_|refine Cl.bind jop λ_ _=>?_|exact jeu|refine Cl.bind (by first|exact j9 H|exact jh H|exact je H|exact jd H|exact ji|exact jv|exact jp|exact jl|exact jk|exact jq H) λ_ _=>?_)|with_reducible (refine Cl.bind (jg (by assumption)) λ_ _=>?_)|split|dsimp only)
 all_goals exact j7 trivial
theorem jga {op:BinOp}{k:FloatKind}{a b c d:Nat}:Cl P' P X (CV X) (Op.complexOp op k a b c d) (Op.complexOp op k a b c d):=by
 unfold Op.complexOp
 repeat' (first|with_reducible (first|exact j8|exact jn|exact j14|exact jy|exact j16|exact j11|exact j15|exact j10|exact ja H|exact j1h H|exact jb H|refine jr ?_|refine Cl.bind (by first|exact j7g|exact jop|exact jsm|exact jiw|exact jg9|exact j9 H|exact jh H|exact je H|exact jd H|exact ji|exact jv|exact jp|exact jl|exact jk|exact jq H) λ_ _=>?_)|with_reducible (refine Cl.bind (jg (by assumption)) λ_ _=>?_)|split|dsimp only)
 all_goals first|exact j7 .complex|exact j7 .bool
theorem jsk (H:Pair P' P X){op:BinOp}{t:TypeId}{x y:Value}(hx:CV X x)(hy:CV X y):Cl P' P X (CV X) (binOp op t x y) (binOp op t x y):=by
 unfold binOp;split
 ·exact jkv H
 ·exact jkv H
 ·split
  ·exact j8
  ·split
   ·exact j58
   ·exact j58
   ·exact j58
   ·exact jge H
   ·exact jge H
   all_goals first|exact jdt|exact jor
 ·split
  ·exact j8
  ·split<;>first|exact j7i|exact jb9
 ·split
  ·exact j8
  ·exact jga
 ·exact jbg
 ·exact(jkq H hx hy).bind λ_ _=>j7 .bool
 ·exact(jkq H hx hy).bind λ_ _=>j7 .bool
 ·refine(j9 H).bind λ_ _=>?_;split
  ·exact jbc H hx hy
  ·exact j4n H hx hy
 ·exact j4n H hy hx
 ·exact j4n H hx .int
 ·exact(j13 (j1m hx)).bind λa ha=>(j13 (j1m hy)).bind λb hb=>jm5 H ha hb
 ·exact(j13 (j1m hx)).bind λa ha=>(j13 (j1m hy)).bind λb hb=>j6d H ha hb
 ·exact(j13 (j1m hx)).bind λa ha=>(j13 (j1m hy)).bind λb hb=>j6d H ha hb
 ·exact(j13 (j1m hx)).bind λa ha=>(j13 (j1m hy)).bind λb hb=>j6d H ha hb
 ·exact(j13 (j1m hx)).bind λa ha=>(j13 (j1m hy)).bind λb hb=>j6d H ha hb
 ·exact(j13 (j1m hx)).bind λa ha=>j8w H ha
 ·exact(j13 (j1m hx)).bind λa ha=>j8w H ha
 ·exact(j13 (j1m hy)).bind λa ha=>j8w H ha
 ·exact jj
 ·exact jj
 ·exact j8
end
end Go.Proofs.Mn
