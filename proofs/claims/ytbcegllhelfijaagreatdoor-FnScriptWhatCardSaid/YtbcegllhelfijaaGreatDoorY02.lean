/-
  A part of the proof.
-/
import Derived.Test.YtbcegllhelfijaaGreatDoorY01
set_option linter.all false
set_option maxRecDepth 100000
set_option maxHeartbeats 8000000
namespace Go.Proofs.Mn
open Go Go.Conc
variable [Atom]
section
variable {P' P:Program}{X:Nat->Prop}{α β:Type}{Q:α->Prop}
theorem jst {op:UnOp}{x:Value}:Cl P' P X (CV X) (Op.unary op x) (Op.unary op x):=by
 unfold Op.unary;split
 ·exact j58
 ·exact jdt
 all_goals first|exact j7 .float|exact j7 .complex|exact j7 .bool|exact jj|exact j8
theorem jgf:∀(n:Nat){a:Addr}(_:¬X a.block)(acc:ByteArray),Cl P' P X (λ_=>True) (loadBytes a acc n) (loadBytes a acc n):=by
 intro n;induction n with
 | zero=>intro a h acc;exact j7 trivial
 | succ n ih=>
  intro a h acc;unfold loadBytes;refine(jba h).bind λv hv=>?_;split
  ·exact ih (by rw[j2r];exact h) _
  ·exact j8
theorem j6s (H:Pair P' P X){a:Addr}(h:¬X a.block){u:TypeId}{n:Nat}:Cl P' P X (λ_=>True) (variablesAt a u n) (variablesAt a u n):=by
 unfold variablesAt;refine j12 ?_;rw[jtw H.tables,j2w H.tables,j2b H.tables];refine(j2n h).bind λ_ _=>?_;split<;>exact j7 trivial
theorem jgh (H:Pair P' P X){a:Addr}(h:¬X a.block):Cl P' P X (λr=>¬X r.block) (Conv.seenAt a) (Conv.seenAt a):=by
 unfold Conv.seenAt;refine(jbi h).bind λo ho=>?_;split
 ·rename_i seen u
  have hs:¬X seen.block:=ho _ _ rfl
  repeat' (first|with_reducible (first|exact j8|exact jn|exact j14|exact jy|exact j16|exact j11|exact j15|exact j10|exact ja H|exact j1h H|exact jb H|refine jr ?_|exact j7 hs|refine Cl.bind (by first|exact j9 H|exact jh H|exact je H|exact jd H|exact ji|exact jv|exact jp|exact jl|exact jk|exact jq H) λ_ _=>?_)|with_reducible (refine Cl.bind (jg (by assumption)) λ_ _=>?_)|split|dsimp only)
  all_goals refine j12 ?_
  all_goals rw[j4m H.tables,j2w H.tables,j2b H.tables,j8l H.tables]
  repeat' (first|with_reducible (first|exact j8|exact jn|exact j14|exact jy|exact j16|exact j11|exact j15|exact j10|exact ja H|exact j1h H|exact jb H|refine jr ?_|refine Cl.bind (j2n hs) λ_ _=>?_|refine Cl.bind (by first|exact j9 H|exact jh H|exact je H|exact jd H|exact ji|exact jv|exact jp|exact jl|exact jk|exact jq H) λ_ _=>?_)|with_reducible (refine Cl.bind (jg (by assumption)) λ_ _=>?_)|split|dsimp only)
  all_goals exact j7 hs
 ·exact j7 h
theorem j5n (H:Pair P' P X){s d:TypeId}{x:Value}(hx:CV X x):Cl P' P X (CV X) (Conv.unsafePointer s d x) (Conv.unsafePointer s d x):=by
 have vw:∀(a:Addr) (t:TypeId),¬X a.block->Cl P' P X (CV X) (do pure (.pointer (some ⟨<- newObj (.view a t),0,none⟩)):Sem Value) (do pure (.pointer (some ⟨<- newObj (.view a t),0,none⟩))):=λa t ha=>(j5x (o:=.view a t) ha).bind λr hr=>j7 (j1w (a:=⟨r,0,none⟩) hr);unfold Conv.unsafePointer;refine(j9 H).bind λ_ _=>(j9 H).bind λ_ _=>?_;split;all_goals first|exact j7 hx|exact j7 .int|exact jj|exact j8|skip
 ·refine(jgh H (j1m hx)).bind λa ha=>(jm7 ha).bind λ_ _=>?_
  repeat' (first|with_reducible (first|exact j8|exact jn|exact j14|exact jy|exact j16|exact j11|exact j15|exact j10|exact ja H|exact j1h H|exact jb H|refine jr ?_|refine Cl.bind (by first|exact j9 H|exact jh H|exact je H|exact jd H|exact ji|exact jv|exact jp|exact jl|exact jk|exact jq H) λ_ _=>?_)|with_reducible (refine Cl.bind (jg (by assumption)) λ_ _=>?_)|split|dsimp only)
  all_goals first|exact vw _ _ ha|exact j7 (j1w ha)
 ·refine(jgh H (j1m hx)).bind λa ha=>(jh H).bind λ_ _=>?_
  repeat' (first|with_reducible (first|exact j8|exact jn|exact j14|exact jy|exact j16|exact j11|exact j15|exact j10|exact ja H|exact j1h H|exact jb H|refine jr ?_|refine Cl.bind (j6s H ha) λ_ _=>?_|refine Cl.bind (j2n ha) λ_ _=>?_|refine Cl.bind (by first|exact j9 H|exact jh H|exact je H|exact jd H|exact ji|exact jv|exact jp|exact jl|exact jk|exact jq H) λ_ _=>?_)|with_reducible (refine Cl.bind (jg (by assumption)) λ_ _=>?_)|split|dsimp only)
  ·exact j7 (j1w ha)
  ·refine j12 (j12 ?_);rw[jdl H.tables,j2w H.tables]
   repeat' (first|with_reducible (first|exact j8|exact jn|exact j14|exact jy|exact j16|exact j11|exact j15|exact j10|exact ja H|exact j1h H|exact jb H|refine jr ?_|refine Cl.bind (by first|exact j9 H|exact jh H|exact je H|exact jd H|exact ji|exact jv|exact jp|exact jl|exact jk|exact jq H) λ_ _=>?_)|with_reducible (refine Cl.bind (jg (by assumption)) λ_ _=>?_)|split|dsimp only)
   all_goals exact vw _ _ ha
 ·exact jb7 (j1m hx)
theorem j5m {a:Addr}(h:¬X a.block):Cl P' P X (λ_=>True) (markStringish a) (markStringish a):=by
 unfold markStringish;refine(j2n h).bind λ_ _=>?_;split
 ·exact jgd h
 ·exact j7 trivial
theorem jae {x:Value}(hx:CV X x):Cl P' P X (CV X) (Conv.bytesToString x) (Conv.bytesToString x):=by
 unfold Conv.bytesToString;split
 ·exact j7 .string
 ·refine(j4h (j26 hx)).bind λcs _=>?_;refine Cl.bind (Q:=λ_=>True) (j7j (I:=λ_=>True) _ _ trivial λc _ s _=>?_) λ_ _=>j7 .string;split
  ·exact j7 (λ_ _=>trivial)
  ·exact jn
 ·exact j8
theorem jew {k:FloatKind}{b:Nat}{d:IntKind}:Cl P' P X (CV X) (Conv.floatToInt k b d) (Conv.floatToInt k b d):=by
 unfold Conv.floatToInt
 repeat' (first|with_reducible (first|exact j8|exact jn|exact j14|exact jy|exact j16|exact j11|exact j15|exact j10|exact ja H|exact j1h H|exact jb H|refine jr ?_|refine Cl.bind (by first|exact j9 H|exact jh H|exact je H|exact jd H|exact ji|exact jv|exact jp|exact jl|exact jk|exact jq H) λ_ _=>?_)|with_reducible (refine Cl.bind (jg (by assumption)) λ_ _=>?_)|split|dsimp only)
 all_goals exact j7 .int
theorem jex {k:FloatKind}{n:Int}:Cl P' P X (CV X) (Conv.intToFloat k n) (Conv.intToFloat k n):=by
 unfold Conv.intToFloat
 repeat' (first|with_reducible (first|exact j8|exact jn|exact j14|exact jy|exact j16|exact j11|exact j15|exact j10|exact ja H|exact j1h H|exact jb H|refine jr ?_|refine Cl.bind (by first|exact j9 H|exact jh H|exact je H|exact jd H|exact ji|exact jv|exact jp|exact jl|exact jk|exact jq H) λ_ _=>?_)|with_reducible (refine Cl.bind (jg (by assumption)) λ_ _=>?_)|split|dsimp only)
 all_goals exact j7 .float
theorem jai {e:TypeId}{s:ByteArray}:Cl P' P X (CV X) (Conv.stringToBytes e s) (Conv.stringToBytes e s):=by
 unfold Conv.stringToBytes;refine jl.bind λ_ _=>?_;dsimp only;refine(j3l ?_).bind λa ha=>(j5m ha).bind λ_ _=>j7 (j1x ha);intro v hv;rcases Array.mem_append.1 hv with h|h
 ·obtain⟨b,_,rfl⟩:=Array.mem_map.1 h;exact .int
 ·rw[Array.eq_of_mem_replicate h];exact .int
theorem j6w {k k':FloatKind}{a b:Nat}:Cl P' P X (CV X) (Conv.complexToComplex k a b k') (Conv.complexToComplex k a b k'):=by
 unfold Conv.complexToComplex
 repeat' (first|with_reducible (first|exact j8|exact jn|exact j14|exact jy|exact j16|exact j11|exact j15|exact j10|exact ja H|exact j1h H|exact jb H|refine jr ?_|refine Cl.bind (by first|exact j47|exact j9 H|exact jh H|exact je H|exact jd H|exact ji|exact jv|exact jp|exact jl|exact jk|exact jq H) λ_ _=>?_)|with_reducible (refine Cl.bind (jg (by assumption)) λ_ _=>?_)|split|dsimp only)
 all_goals exact j7 .complex
theorem jk6 {s:ByteArray}:∀(n i:Nat)(acc:Array Value),(∀v∈acc,CV X v)->∀v∈Conv.runesFrom s n i acc,CV X v:=by
 intro n;induction n with
 | zero=>intro i acc h;exact h
 | succ n ih=>
  intro i acc h;unfold Conv.runesFrom;split
  ·exact ih _ _ (jj5 h .int)
  ·exact h
theorem jaj {e:TypeId}{s:ByteArray}:Cl P' P X (CV X) (Conv.stringToRunes e s) (Conv.stringToRunes e s):=by
 unfold Conv.stringToRunes;dsimp only;refine jl.bind λ_ _=>(j3l ?_).bind λa ha=>j7 (j1x ha);intro v hv;rcases Array.mem_append.1 hv with h|h
 ·exact jk6 _ _ _ (by simp) v h
 ·rw[Array.eq_of_mem_replicate h];exact .int
theorem jah {x:Value}(hx:CV X x):Cl P' P X (CV X) (Conv.runesToString x) (Conv.runesToString x):=by
 unfold Conv.runesToString;split
 ·exact j7 .string
 ·refine(j4h (j26 hx)).bind λcs _=>?_;refine Cl.bind (Q:=λ_=>True) (j7j (I:=λ_=>True) _ _ trivial λc _ s _=>?_) λ_ _=>j7 .string;split
  ·exact j7 (λ_ _=>trivial)
  ·exact jn
 ·exact j8
theorem jm8 (H:Pair P' P X){s d:TypeId}{x:Value}(hx:CV X x):Cl P' P X (CV X) (convert s d x) (convert s d x):=by
 unfold convert;refine(j9 H).bind λ_ _=>(j9 H).bind λ_ _=>?_;split
 ·exact j7 .int
 ·exact jex
 ·exact jew
 ·exact j47
 ·exact j6w
 ·exact j7 .string
 ·exact j7 hx
 ·refine(j9 H).bind λ_ _=>?_;split<;>first|exact jai|exact jaj|exact j8
 ·refine(j9 H).bind λ_ _=>?_;split
  ·exact(j5m (j26 hx)).bind λ_ _=>j7 hx
  ·exact jj
 ·refine(j9 H).bind λ_ _=>?_;split<;>first|exact jae hx|exact jah hx|exact j8
 ·exact j5n H hx
 ·exact j5n H hx
 ·exact jj
 ·exact jj
theorem jku {x:Value}:Cl P' P X (λ_=>True) (Builtin.lenOf x) (Builtin.lenOf x):=by
 unfold Builtin.lenOf;split<;>first|exact j7 trivial|exact j8
theorem j56 {size n:Nat}{x:Value}(hx:CV X x):Cl P' P X (λcs=>∀v∈cs,CV X v) (Builtin.firstCells size n x) (Builtin.firstCells size n x):=by
 unfold Builtin.firstCells;split
 ·exact j4h (j26 hx)
 ·exact j7 (by simp)
 ·refine j7 ?_;intro v hv;obtain⟨b,_,rfl⟩:=Array.mem_map.1 hv;exact .int
 ·exact j8
theorem j4g {zero:Array Value}(hz:∀v∈zero,CV X v)(n:Nat):∀v∈Builtin.zeroCells zero n,CV X v:=j7u hz
theorem j57 {a:Addr}(h:¬X a.block){n:Nat}:Cl P' P X (λ_=>True) (Builtin.holdsCells a n) (Builtin.holdsCells a n):=by
 unfold Builtin.holdsCells;refine(j2n h).bind λ_ _=>?_;split<;>exact j7 trivial
theorem jbb {size l n:Nat}{base:Option Addr}{x:Value}(hb:CV X (.pointer base))(hx:CV X x):Cl P' P X (λ_=>True) (Builtin.mayShare size l n base x) (Builtin.mayShare size l n base x):=by
 unfold Builtin.mayShare;cases base with
 | none=>
  refine jr ?_
  repeat' (first|with_reducible (first|exact j8|exact jn|exact j14|exact jy|exact j16|exact j11|exact j15|exact j10|exact ja H|exact j1h H|exact jb H|refine jr ?_|refine Cl.bind (j57 (j26 hx)) λ_ _=>?_|refine Cl.bind (by first|exact j9 H|exact jh H|exact je H|exact jd H|exact ji|exact jv|exact jp|exact jl|exact jk|exact jq H) λ_ _=>?_)|with_reducible (refine Cl.bind (jg (by assumption)) λ_ _=>?_)|split|dsimp only)
  all_goals exact j7 trivial
 | some a=>
  have ha:=j1m hb;refine Cl.bind (j57 ha) λ_ _=>Cl.bind (j5v (by rw[j2r];exact ha)) λ_ _=>jr ?_
  repeat' (first|with_reducible (first|exact j8|exact jn|exact j14|exact jy|exact j16|exact j11|exact j15|exact j10|exact ja H|exact j1h H|exact jb H|refine jr ?_|refine Cl.bind (j57 (j26 hx)) λ_ _=>?_|refine Cl.bind (by first|exact j9 H|exact jh H|exact je H|exact jd H|exact ji|exact jv|exact jp|exact jl|exact jk|exact jq H) λ_ _=>?_)|with_reducible (refine Cl.bind (jg (by assumption)) λ_ _=>?_)|split|dsimp only)
  all_goals exact j7 trivial
theorem jiz {a:Addr}(h:¬X a.block){cs:Array Value}(hc:∀v∈cs,CV X v){n:Nat}:Cl P' P X (λ_=>True) (storeCells (a.add n) cs.toList) (storeCells (a.add n) cs.toList):=
 j3u (by rw[j2r];exact h) _ 0 λv hv=>hc v (by simpa using hv)
theorem jmh (H:Pair P' P X){e:TypeId}{n:Nat}:Cl P' P X (λcs=>∀v∈cs,CV X v) (do pure (Builtin.zeroCells (<- zeroValue e).cells n):Sem (Array Value)) (do pure (Builtin.zeroCells (<- zeroValue e).cells n)):=
 (jd H).bind λz hz=>j7 (j4g (j2q hz) n)
theorem jv8 {b:Option Addr}{l c:Nat}(h:CV X (.pointer b)):CV X (.slice b l c):=by cases h with|pointer h=>exact .slice h
theorem jww {a:Addr}{n:Nat}(h:¬X a.block):¬X (a.add n).block:=by rw[j2r];exact h
theorem jov {size l n:Nat}{base:Option Addr}{x:Value}{γ:Type}{f f':γ->Sem α}{s s':String}(hb:CV X (.pointer base))(hx:CV X x) :
  Cl P' P X Q ((do if !(<- Builtin.mayShare size l n base x)then do mark .noRoom;unsupported (.resourceLimit s)else unsupported (.resourceLimit s'):Sem γ) >>= f) ((do if !(<- Builtin.mayShare size l n base x)then do mark .noRoom;unsupported (.resourceLimit s)else unsupported (.resourceLimit s')) >>= f'):=by
 refine Cl.bind (Q:=λ_=>False) ((jbb hb hx).bind λ_ _=>?_) (λ_ h=>h.elim);split
 ·exact .mark (.inl rfl) jj
 ·exact jj
theorem joo (H:Pair P' P X){ts:Array TypeId}{t:TypeId}{args:Array Value}(h:∀v∈args,CV X v):Cl P' P X (CV X) (Builtin.append_ ts t args) (Builtin.append_ ts t args):=by
 have h0:∀v,args[0]?=some v->CV X v:=λv e=>j4p h e;have h1:∀v,args[1]?=some v->CV X v:=λv e=>j4p h e;unfold Builtin.append_;generalize args[0]?=o0 at h0 ⊢;generalize args[1]?=o1 at h1 ⊢;generalize ts[0]?=t0;cases t0 with
 | none=>exact j8
 | some sType=>
 cases o0 with
 | none=>exact j8
 | some s=>
 cases o1 with
 | none=>exact j8
 | some x=>
 have hs:=h0 _ rfl;have hx:=h1 _ rfl;dsimp only;refine(j9 H).bind λ_ _=>?_;split
 ·rename_i elem _
  cases s with
  | slice base sLen sCap=>
   have hb:CV X (.pointer base):=by cases hs with|slice h=>exact .pointer h
   dsimp only;refine(jh H).bind λsize _=>?_
   repeat' (first|with_reducible (first|exact j8|exact jn|exact j14|exact jy|exact j16|exact j11|exact j15|exact j10|exact ja H|exact j1h H|exact jb H|refine jr ?_|refine Cl.bind jku λ_ _=>?_|refine Cl.bind (j56 hs) λ_ _=>?_|refine Cl.bind (j56 hx) λ_ _=>?_|refine Cl.bind (jiz (j1m hb) (by assumption)) λ_ _=>?_|refine Cl.bind (jbb hb hx) λ_ _=>?_|simp only[↓reduceIte,Bool.not_true,Bool.not_false,Bool.false_eq_true,true_or,false_or,and_true]|refine Cl.bind (Cl.mark (.inl rfl) (.pure trivial):Cl P' P X (λ_=>True) (mark .noRoom) (mark .noRoom)) λ_ _=>?_)|with_reducible exact(j3l (j1z (j1z (by assumption) (by assumption)) (j4g (j2q (by assumption)) _))).bind λa ha=>j7 (j1x ha)|with_reducible exact(j3l (j1z (j1z (by assumption) (by simp)) (j4g (j2q (by assumption)) _))).bind λa ha=>j7 (j1x ha)|with_reducible refine Cl.bind (jmh H) λ_ _=>?_|with_reducible refine Cl.bind (j3u (jww (j1m hb)) [] 0 (by simp)) λ_ _=>?_|with_reducible exact jov hb hx|with_reducible exact j7 (jv8 hb)|with_reducible refine Cl.bind (j9 H) λ_ _=>?_|with_reducible refine Cl.bind (jh H) λ_ _=>?_|with_reducible refine Cl.bind (je H) λ_ _=>?_|with_reducible refine Cl.bind (jd H) λ_ _=>?_|with_reducible refine Cl.bind ji λ_ _=>?_|with_reducible refine Cl.bind jv λ_ _=>?_|with_reducible refine Cl.bind jp λ_ _=>?_|with_reducible refine Cl.bind jl λ_ _=>?_|with_reducible refine Cl.bind jk λ_ _=>?_|with_reducible refine Cl.bind (jq H) λ_ _=>?_|with_reducible (refine Cl.bind (jg (by assumption)) λ_ _=>?_)|split|dsimp only)
  | _=>exact j8
 ·exact j8
end
end Go.Proofs.Mn
namespace Go.Proofs.Mn
open Go Go.Conc
variable [Atom]
def okBuiltin:Builtin->Bool
 | .append|.copy|.len|.min|.recover|.unsafeSliceData|.unsafeString=>true
 | _=>false
structure CD (X:Nat->Prop)(d:Deferred):Prop where
 target:match d.target with
  | .fn fn captured=>FnOk fn/\∀v∈captured,CV X v
  | .nil=>True
  | .builtin b _ _ _=>okBuiltin b=true
  | _=>False
 args:∀v∈d.args,CV X v
theorem CD.mono {X Y:Nat->Prop}{d:Deferred}(hXY:∀b,Y b->X b)(h:CD X d):CD Y d:=by
 obtain⟨h1,h2⟩:=h;refine⟨?_,λv hv=>(h2 v hv).mono hXY⟩;obtain⟨tg,args⟩:=d;cases tg with
 | fn f c=>exact⟨h1.1,λv hv=>(h1.2 v hv).mono hXY⟩
 | _=>exact h1
def CN (P' P:Program)(X:Nat->Prop)(pass:FuncId):Next->Prop
 | .value v=>CV X v
 | .skip|.recover=>True
 | .enter f args=>(∀v∈args,CV X v)/\((f≠pass/\P'.funcs[f]?=P.funcs[f]?/\∃fn,P.funcs[f]?=some fn/\fn.body.isSome=true)\/f=pass)
 | .defer d=>CD X d
 | _=>False
section
variable {P' P:Program}{X:Nat->Prop}{α β:Type}{Q:α->Prop}{pass:FuncId}
theorem joq (H:Pair P' P X){ts:Array TypeId}{t:TypeId}{args:Array Value}(h:∀v∈args,CV X v):Cl P' P X (CV X) (Builtin.copy_ ts t args) (Builtin.copy_ ts t args):=by
 have h0:∀v,args[0]?=some v->CV X v:=λv e=>j4p h e;have h1:∀v,args[1]?=some v->CV X v:=λv e=>j4p h e;unfold Builtin.copy_;generalize args[0]?=o0 at h0 ⊢;generalize args[1]?=o1 at h1 ⊢;generalize ts[0]?=t0;cases t0 with
 | none=>exact j8
 | some sType=>
 cases o0 with
 | none=>exact j8
 | some s=>
 cases o1 with
 | none=>exact j8
 | some x=>
 have hs:=h0 _ rfl;have hx:=h1 _ rfl;dsimp only;refine(j9 H).bind λ_ _=>?_;split
 ·cases s with
  | slice base sLen sCap=>
   have hb:CV X (.pointer base):=by cases hs with|slice h=>exact .pointer h
   dsimp only;refine Cl.bind jku λn _=>(jh H).bind λsize _=>(j56 hx).bind λcs hcs=>?_;split
   ·exact(j3u (j1m hb) _ 0 (λv hv=>hcs v (by simpa using hv))).bind λ_ _=>j7 .int
   ·exact j7 .int
  | _=>exact j8
 ·exact j8
theorem jx1 (H:Pair P' P X){ts:Array TypeId}{t:TypeId}{args:Array Value}(h:∀v∈args,CV X v):Cl P' P X (CV X) (Builtin.len_ ts t args) (Builtin.len_ ts t args):=by
 have h0:∀v,args[0]?=some v->CV X v:=λv e=>j4p h e;unfold Builtin.len_;generalize args[0]?=o0 at h0 ⊢;generalize ts[0]?=t0;cases t0 with
 | none=>exact j8
 | some sType=>
 cases o0 with
 | none=>exact j8
 | some s=>
 have hs:=h0 _ rfl;dsimp only;refine(j9 H).bind λ_ _=>?_;split;all_goals first|exact j7 .int|exact j8|skip
 ·refine(j9 H).bind λ_ _=>?_;split<;>first|exact j7 .int|exact j8
 ·rename_i r _
  have hr:¬X r:=by cases hs with|map h=>exact h _ rfl
  refine(j48 hr).bind λo _=>?_;split<;>first|exact j7 .int|exact j8
 ·rename_i r _
  have hr:¬X r:=by cases hs with|chan h=>exact h _ rfl
  refine(j48 hr).bind λo _=>?_;split<;>first|exact j7 .int|exact j8
theorem jv4 {x y:Value}:Cl P' P X (CV X) (Builtin.min2 x y) (Builtin.min2 x y):=by
 unfold Builtin.min2;split
 ·exact j7 .int
 ·split
  ·exact jl.bind λ_ _=>j7 .float
  ·exact j7 .float
  ·exact j7 .float
  ·exact j7 .float
 ·exact jbg.bind λ_ _=>jp.bind λ_ _=>j7 .string
 ·exact jj
 ·exact jj
 ·exact j8
theorem jx2 {ts:Array TypeId}{t:TypeId}{args:Array Value}(h:∀v∈args,CV X v):Cl P' P X (CV X) (Builtin.min_ ts t args) (Builtin.min_ ts t args):=by
 unfold Builtin.min_;have h':∀v∈args.toList,CV X v:=λv hv=>h v (by simpa using hv);generalize args.toList=l at h';cases l with
 | nil=>exact j8
 | cons x rest=>
  have key:∀(l:List Value) (x:Value),CV X x->Cl P' P X (CV X) (l.foldlM Builtin.min2 x) (l.foldlM Builtin.min2 x):=by
   intro l;induction l with
   | nil=>intro x hx;exact j7 hx
   | cons y l ih=>intro x hx;simp only[List.foldlM_cons];exact jv4.bind λz hz=>ih z hz
  exact key rest x (h' x (by simp))
theorem j7m (H:Pair P' P X){ts:Array TypeId}{t:TypeId}{args:Array Value}(h:∀v∈args,CV X v):Cl P' P X (CV X) (Builtin.unsafeSliceData_ ts t args) (Builtin.unsafeSliceData_ ts t args):=by
 obtain⟨l⟩:=args;unfold Builtin.unsafeSliceData_;rcases l with _|⟨a,_|⟨b,l⟩⟩
 ·exact j8
 ·have ha:CV X a:=h _ (by simp);cases a with
  | slice base n c=>
   cases base with
   | none=>exact j7 j60
   | some a=>
    have hn:¬X a.block:=j26 ha;have key:Cl P' P X (CV X) (if c≠0 then pure (.pointer (some a))else do
      if(<- viewAt a.block).isSome then pure (.pointer (some a))else pure (.pointer (some ⟨<- newObj (.view a (<- elemOf t)),0,none⟩)):Sem Value) (if c≠0 then pure (.pointer (some a))else do
      if(<- viewAt a.block).isSome then pure (.pointer (some a))else pure (.pointer (some ⟨<- newObj (.view a (<- elemOf t)),0,none⟩))):=by
     split
     ·exact j7 (j1w hn)
     ·refine(jdv hn).bind λo _=>?_;split
      ·exact j7 (j1w hn)
      ·exact(jq H).bind λ_ _=>(j5x (o:=.view a _) hn).bind λr hr=>j7 (j1w (a:=⟨r,0,none⟩) hr)
    exact key
  | _=>exact j8
 ·cases a with
  | slice base n c=>cases base<;>exact j8
  | _=>exact j8
theorem jbh (H:Pair P' P X){ts:Array TypeId}{t:TypeId}{args:Array Value}(h:∀v∈args,CV X v):Cl P' P X (CV X) (Builtin.unsafeString_ ts t args) (Builtin.unsafeString_ ts t args):=by
 obtain⟨l⟩:=args;unfold Builtin.unsafeString_;rcases l with _|⟨a,_|⟨b,_|⟨c,l⟩⟩⟩
 ·exact j8
 ·cases a<;>exact j8
 ·cases a with
  | pointer ptr=>
   have hp:CV X (.pointer ptr):=h _ (by simp);refine Cl.bind (jv (v:=b)) λn _=>?_
   repeat' (first|with_reducible (first|exact j8|exact jn|exact j14|exact jy|exact j16|exact j11|exact j15|exact j10|exact ja H|exact j1h H|exact jb H|refine jr ?_|refine Cl.bind (j6s H (j1m hp)) λ_ _=>?_|refine Cl.bind (jgf _ (j1m hp) _) λ_ _=>?_|refine Cl.bind (jgd (j1m hp)) λ_ _=>?_|refine Cl.bind (by first|exact j9 H|exact jh H|exact je H|exact jd H|exact ji|exact jv|exact jp|exact jl|exact jk|exact jq H) λ_ _=>?_)|with_reducible (refine Cl.bind (jg (by assumption)) λ_ _=>?_)|split|dsimp only)
   all_goals exact j7 .string
  | _=>exact j8
 ·cases a<;>exact j8
theorem jf0 (H:Pair P' P X){ts:Array TypeId}{t:TypeId}{args:Array Value}(h:∀v∈args,CV X v):Cl P' P X (CV X) (Builtin.ssaWrapNilChk_ ts t args) (Builtin.ssaWrapNilChk_ ts t args):=by
 obtain⟨l⟩:=args;unfold Builtin.ssaWrapNilChk_;rcases l with _|⟨a,_|⟨b,_|⟨c,_|⟨d,l⟩⟩⟩⟩
 ·exact j8
 ·exact j8
 ·cases b<;>exact j8
 ·have ha:CV X a:=h _ (by simp);cases b with
  | string s=>
   cases c with
   | string m=>
    dsimp only;cases a with
    | pointer p=>
     cases p with
     | some p=>exact j7 ha
     | none=>
      refine Cl.bind jl λ_ _=>?_
      repeat' (first|with_reducible (first|exact j8|exact jn|exact j14|exact jy|exact j16|exact j11|exact j15|exact j10|exact ja H|exact j1h H|exact jb H|refine jr ?_|refine Cl.bind (by first|exact j9 H|exact jh H|exact je H|exact jd H|exact ji|exact jv|exact jp|exact jl|exact jk|exact jq H) λ_ _=>?_)|with_reducible (refine Cl.bind (jg (by assumption)) λ_ _=>?_)|split|dsimp only)
    | _=>exact j8
   | _=>exact j8
  | _=>exact j8
 ·cases b with
  | string s=>cases c<;>exact j8
  | _=>exact j8
end
end Go.Proofs.Mn
namespace Go.Proofs.Mn
open Go Go.Conc
variable [Atom]
def CPl (X:Nat->Prop):Place->Prop
 | .val v=>CV X v
 | .var a=>¬X a.block
section
variable {P' P:Program}{X:Nat->Prop}{α β:Type}{Q:α->Prop}{pass:FuncId}
theorem j49 (H:Pair P' P X){t:TypeId}{x:Place}(h:CPl X x):Cl P' P X (CV X) (x.get t) (x.get t):=by
 unfold Place.get;split
 ·exact j7 h
 ·exact j41 H h
theorem jgb (H:Pair P' P X):∀(l:List FieldStep){t:TypeId}{x:Place},CPl X x->Cl P' P X (λr=>CPl X r.2) (follow l t x) (follow l t x):=by
 intro l;induction l with
 | nil=>intro t x h;exact j7 h
 | cons s l ih=>
  intro t x h;unfold follow;refine(j9 H).bind λ_ _=>?_;split
  ·split
   ·split
    ·exact(j49 H h).bind λv hv=>(j5u H hv).bind λa ha=>(j55 H ha).bind λb hb=>ih hb
    ·split
     ·exact(j55 H h).bind λb hb=>ih hb
     ·exact(j3s H (j3d h)).bind λv hv=>ih hv
     ·exact j8
   ·exact j8
  ·exact j8
theorem j7l (H:Pair P' P X){t:TypeId}{x:Place}{p:Bool}{wr:Option String}(h:CPl X x):Cl P' P X (CV X) (receiverAt t x p wr) (receiverAt t x p wr):=by
 unfold receiverAt;refine(j9 H).bind λ_ _=>?_;split
 ·exact j49 H h
 ·refine(j49 H h).bind λptr hp=>?_;split
  ·exact(jf0 H (by intro v hv;simp at hv;rcases hv with rfl|rfl|rfl;exact hp;exact .string;exact .string)).bind λv hv=>(j5u H hv).bind λa ha=>j41 H ha
  ·exact jr ((j5u H hp).bind λa ha=>j41 H ha)
 ·exact j7 (j1w h)
 ·exact j8
 ·exact j49 H h
theorem jd3 (H:Pair P' P X){t:TypeId}{v:Value}{path:Array FieldStep}{p:Bool}(h:CV X v):Cl P' P X (CV X) (receiverVia t v path p) (receiverVia t v path p):=
 (jgb H _ (x:=.val v) h).bind λr hr=>j7l H hr
theorem jou (H:Pair P' P X):∀(n:Nat){t:TypeId}{v:Value}{name:String},CV X v->Cl P' P X (λr=>CV X r.2\/DeadF P' P X r.1) (method n t v name) (method n t v name):=by
 intro n;induction n with
 | zero=>intro t v name _;exact jj
 | succ n ih=>
  intro t v name h;unfold method;refine(je H).bind λi _=>?_;split
  ·refine(jgb H _ (x:=.val v) h).bind λr hr=>?_;dsimp only;split
   ·refine(j49 H hr).bind λy hy=>?_;split
    ·rcases j5b hy with⟨_,hy⟩|⟨rfl,rfl⟩
     ·exact ih hy
     ·exact(H.methAtom _ _).mono λ_ h=>.inr h
    ·exact ja H
    ·exact j8
   ·exact(j7l H hr).bind λy hy=>j7 (.inl hy)
  ·exact j8
theorem jd2 (H:Pair P' P X):∀(l:List FieldStep){t:TypeId}{x:Option Value},(∀v,x=some v->CV X v)->Cl P' P X (λr=>∀p v,r=.ok (p,some v)->CV X v) (followBlind l t x) (followBlind l t x):=by
 intro l;induction l with
 | nil=>intro t x h;exact j7 (by intro p v e;cases e;exact h _ rfl)
 | cons s l ih=>
  intro t x h;unfold followBlind;refine(j9 H).bind λ_ _=>?_;split
  ·split
   ·split
    ·exact j7 (by intro p v e;cases e)
    ·exact ih (by intro v e;cases e)
    ·exact j8
    ·exact j7 (by intro p v e;cases e)
    ·exact(j3s H (j3d (h _ rfl))).bind λv hv=>ih (by intro v' e;cases e;exact hv)
    ·exact j8
    ·exact ih (by intro v e;cases e)
   ·exact j8
  ·exact j8
theorem jiy (H:Pair P' P X):∀(n:Nat){t:TypeId}{v:Value}{name:String},CV X v->Cl P' P X (λ_=>True) (nilAhead n t v name) (nilAhead n t v name):=by
 intro n;induction n with
 | zero=>intro t v name _;exact j7 trivial
 | succ n ih=>
  intro t v name h;unfold nilAhead;refine(je H).bind λi _=>?_;split
  ·refine(jd2 H _ (x:=some v) (by intro v' e;cases e;exact h)).bind λr hr=>?_;split
   ·exact j7 trivial
   ·rename_i xt x
    split
    ·rcases j5b (hr _ _ rfl)with⟨_,h⟩|⟨rfl,rfl⟩
     ·exact ih h
     ·exact H.aheadAtom _ _
    ·exact j7 trivial
    ·exact j8
    ·exact j7 trivial
    ·exact j7 trivial
    ·refine(j9 H).bind λ_ _=>?_;split<;>exact j7 trivial
  ·exact j8
variable (hcall:∀f args,(∀v∈args,CV X v)->Cl P' P X (CN P' P X pass) (callFunc f args) (callFunc f args))
include hcall
theorem jev (H:Pair P' P X){recv:Value}{name:String}{args:Array Value}(hr:CV X recv)(ha:∀v∈args,CV X v):Cl P' P X (CN P' P X pass) (callMethod recv name args) (callMethod recv name args):=by
 unfold callMethod;split
 ·refine j12 ?_;rw[jrn H.tables];rcases j5b hr with⟨_,hr⟩|⟨rfl,rfl⟩
  ·refine(jou H _ hr).bind λr hr'=>?_;rcases hr' with hr'|hr'
   ·exact hcall _ _ (j1z (by intro v hv;simp at hv;subst hv;exact hr') ha)
   ·exact hr' _ _
  ·exact(H.methAtom _ _).bind λr hr'=>hr' _ _
 ·exact ja H
 ·exact j8
omit hcall in
theorem j19 {t:Sem Value}(h:Cl P' P X (CV X) t t):Cl P' P X (CN P' P X pass) (do pure (.value (<- t))) (do pure (.value (<- t))):=h.bind λv hv=>j7 hv
omit hcall in
theorem jm6 (H:Pair P' P X){b:Builtin}{ts:Array TypeId}{t:TypeId}{cs:Array Bool}{args:Array Value}(hb:okBuiltin b=true)(h:∀v∈args,CV X v):Cl P' P X (CN P' P X pass) (builtin b ts t cs args) (builtin b ts t cs args):=by
 cases b<;>first|cases hb|skip
 ·exact j19 (joo H h)
 ·exact j19 (joq H h)
 ·exact j19 (jx1 H h)
 ·exact j19 (jx2 h)
 ·exact j7 trivial
 ·exact j19 (j7m H h)
 ·exact j19 (jbh H h)
theorem j5w (H:Pair P' P X){d:Deferred}(h:CD X d):Cl P' P X (CN P' P X pass) (invoke d.target d.args) (invoke d.target d.args):=by
 obtain⟨tg,args⟩:=d;obtain⟨ht,ha⟩:=h;simp only at ht ha;unfold invoke;cases tg with
 | nil=>exact ja H
 | builtin b ts t cs=>exact jm6 H ht ha
 | collected r=>exact ht.elim
 | coroexit c=>exact ht.elim
 | fn f captured=>
  obtain⟨hy,hc⟩:=ht;cases f with
  | func f=>exact hcall _ _ (j1z ha hc)
  | method name=>
   dsimp only;split
   ·rename_i recv e;exact jev hcall H (j4p ha e) (j8x ha _ _)
   ·exact j8
  | methodOf t name=>exact hy.elim
  | via t path f p=>
   dsimp only;split
   ·rename_i recv e
    exact(jd3 H (j4p ha e)).bind λr hr=>hcall _ _ (j1z (by intro v hv;simp at hv;subst hv;exact hr) (j8x ha _ _))
   ·exact j8
  | yield l=>exact hy.elim
end
end Go.Proofs.Mn
namespace Go.Proofs.Mn
open Go Go.Conc
variable [Atom]
def noYield:Fn->Bool
 | .yield _|.methodOf _ _=>false
 | _=>true
theorem jpr {fn:Fn}(h:noYield fn=true):FnOk fn:=by cases fn<;>first|trivial|cases h
def plainVal:Nat->Value->Bool
 | _,.bool _|_,.int _ _|_,.float _ _|_,.complex _ _ _|_,.string _|_,.nilFunc|_,.nilIface=>true
 | _,.pointer a|_,.slice a _ _=>a.isNone
 | _,.map r|_,.chan r=>r.isNone
 | n+1,.func fn first cap=>noYield fn&&first.toList.all (plainVal n)&&cap.toList.all (plainVal n)
 | n+1,.iface t v=>decide (t≠Atom.t)&&plainVal n v
 | n+1,.agg cs|n+1,.tuple cs=>cs.toList.all (plainVal n)
 | 0,_=>false
def okOperand (gs:Nat):Operand->Bool
 | .tmp _|.func _=>true
 | .const v=>plainVal 8 v
 | .global g=>decide (g<gs)
def okOpt (gs:Nat):Option Operand->Bool
 | none=>true
 | some x=>okOperand gs x
def okCall (gs:Nat)(c:Call):Bool:=
 c.args.toList.all (okOperand gs)&&match c.callee with
  | .value f=>okOperand gs f
  | .invoke r _=>okOperand gs r
  | .builtin b=>okBuiltin b
def okOp (gs:Nat):Op->Bool
 | .move x|.assign x|.box _ x|.load _ x|.nilCheck x|.unOp _ _ x|.convert _ _ x|.fieldAddr _ x _|.field _ x _|.range _ x|.extract x _|.panic x=>okOperand gs x
 | .makeInterface t x=>decide (t≠Atom.t)&&okOperand gs x
 | .typeAssert x _ u _=>decide (u≠Atom.t)&&okOperand gs x
 | .pick c a b=>okOperand gs c&&okOperand gs a&&okOperand gs b
 | .alloc _=>true
 | .build _ parts=>parts.toList.all λp=>okOperand gs p.2
 | .buildSlice _ _ parts=>parts.toList.all λp=>okOperand gs p.2
 | .store _ a x=>okOperand gs a&&okOperand gs x
 | .binOp _ _ x y _=>okOperand gs x&&okOperand gs y
 | .makeFunc fn first cap=>noYield fn&&first.toList.all (okOperand gs)&&cap.toList.all (okOperand gs)
 | .makeSlice _ l c=>okOperand gs l&&okOperand gs c
 | .slice _ x lo hi mx=>okOperand gs x&&okOpt gs lo&&okOpt gs hi&&okOpt gs mx
 | .indexAddr _ x i|.index _ x i=>okOperand gs x&&okOperand gs i
 | .next it isString=>isString&&okOperand gs it
 | .call c|.defer c=>okCall gs c
 | _=>false
section
variable {P' P:Program}{X:Nat->Prop}{α β:Type}{Q:α->Prop}{pass:FuncId}
theorem jcf:∀(n:Nat)(v:Value),plainVal n v=true->CV X v:=by
 intro n;induction n with
 | zero=>
  intro v h;cases v with
  | bool=>exact .bool
  | int=>exact .int
  | float=>exact .float
  | complex=>exact .complex
  | string=>exact .string
  | nilFunc=>exact .nilFunc
  | nilIface=>exact .nilIface
  | pointer a=>cases a with|none=>exact j60|some a=>cases h
  | slice a l c=>cases a with|none=>exact j6y|some a=>cases h
  | map r=>cases r with|none=>exact .map (by intro x e;cases e)|some a=>cases h
  | chan r=>cases r with|none=>exact .chan (by intro x e;cases e)|some a=>cases h
  | _=>cases h
 | succ n ih=>
  intro v h;have all:∀cs:Array Value,cs.toList.all (plainVal n)=true->∀v∈cs,CV X v:=λcs hc v hv=>ih v (List.all_eq_true.1 hc v (by simpa using hv));cases v with
  | bool=>exact .bool
  | int=>exact .int
  | float=>exact .float
  | complex=>exact .complex
  | string=>exact .string
  | nilFunc=>exact .nilFunc
  | nilIface=>exact .nilIface
  | pointer a=>cases a with|none=>exact j60|some a=>cases h
  | slice a l c=>cases a with|none=>exact j6y|some a=>cases h
  | map r=>cases r with|none=>exact .map (by intro x e;cases e)|some a=>cases h
  | chan r=>cases r with|none=>exact .chan (by intro x e;cases e)|some a=>cases h
  | func fn first cap=>
   simp only[plainVal,Bool.and_eq_true]at h;exact .func (jpr h.1.1) (all _ h.1.2) (all _ h.2)
  | iface t v=>
   simp only[plainVal,Bool.and_eq_true,decide_eq_true_eq]at h;exact .iface h.1 (ih v h.2)
  | agg cs=>exact .agg (all _ h)
  | tuple cs=>exact .tuple (all _ h)
theorem jdu {ρ:Operand->Value}{c:Call}{t:TypeId}{gs:Nat}(hc:okCall gs c=true)(hρ:∀x,okOperand gs x=true->CV X (ρ x)):Cl P' P X (CD X) (resolve ρ c t) (resolve ρ c t):=by
 obtain⟨callee,args,ats⟩:=c;simp only[okCall,Bool.and_eq_true]at hc;obtain⟨ha,hf⟩:=hc;have hargs:∀v∈args.map ρ,CV X v:=by
  intro v hv;obtain⟨x,hx,rfl⟩:=Array.mem_map.1 hv;exact hρ x (List.all_eq_true.1 ha x (by simpa using hx))
 unfold resolve;cases callee with
 | builtin b=>exact j7 ⟨hf,hargs⟩
 | invoke r name=>exact j7 ⟨⟨trivial,(by simp)⟩,j1z (by intro v hv;simp at hv;subst hv;exact hρ r hf) hargs⟩
 | value f=>
  have hv:=hρ f hf;show Cl P' P X (CD X) (Deferred.ofValue (ρ f) (args.map ρ)) (Deferred.ofValue (ρ f) (args.map ρ));generalize ρ f=v at hv;unfold Deferred.ofValue;cases v with
  | func fn first cap=>cases hv with|func h1 h2 h3=>exact j7 ⟨⟨h1,h3⟩,j1z h2 hargs⟩
  | nilFunc=>exact j7 ⟨trivial,hargs⟩
  | _=>exact j8
variable (hcall:∀f args,(∀v∈args,CV X v)->Cl P' P X (CN P' P X pass) (callFunc f args) (callFunc f args))
include hcall
theorem j7h (H:Pair P' P X){ρ:Operand->Value}{o:Oper}{gs:Nat}(ho:okOp gs o.op=true)(hρ:∀x,okOperand gs x=true->CV X (ρ x)):Cl P' P X (CN P' P X pass) (execOp ρ o) (execOp ρ o):=by
 obtain⟨dst,op,ty,pos,after,guard⟩:=o;simp only at ho;unfold execOp;have parts:∀ps:Array (Nat×Operand),(ps.toList.all λp=>okOperand gs p.2)=true->∀p∈ps.map (λ(i,x)=>(i,ρ x)),CV X p.2:=by
  intro ps hp p hpm;obtain⟨q,hq,rfl⟩:=Array.mem_map.1 hpm;exact hρ _ (List.all_eq_true.1 hp q (by simpa using hq))
 cases op with
 | move x=>exact j7 (hρ x ho)
 | assign x=>exact j7 (hρ x ho)
 | pick c a b=>
  simp only[okOp,Bool.and_eq_true]at ho;refine jp.bind λt _=>j7 ?_;show CV X _;split
  ·exact hρ a ho.1.2
  ·exact hρ b ho.2
 | alloc e=>exact j19 (jsi H)
 | box e x=>exact j19 (jwz (hρ x ho))
 | build t ps=>exact j19 (jsl H (parts ps ho))
 | buildSlice t n ps=>exact j19 (jet H (parts ps ho))
 | load t a=>exact j19 (jos H (hρ a ho))
 | store t a x=>
  simp only[okOp,Bool.and_eq_true]at ho;exact(jmf H (hρ a ho.1) (hρ x ho.2)).bind λ_ _=>j7 trivial
 | nilCheck x=>
  have hx:=hρ x ho;dsimp only;generalize ρ x=v at hx;split
  ·exact ja H
  ·exact ja H
  ·exact ja H
  ·rename_i name first captured
   have hx':=hx;cases hx with
   | func h1 h2 h3=>
    split
    ·exact ja H
    ·rename_i t w e
     refine j12 ?_;rw[jrn H.tables];refine Cl.bind (Q:=λ_=>True) (by
      rcases j5b (j4p h2 e)with⟨_,h⟩|⟨rfl,rfl⟩
      ·exact jiy H _ h
      ·exact H.aheadAtom _ _) λr _=>?_
     split
     ·exact j24
     ·exact j7 hx'
    ·exact j7 hx'
  ·exact j7 hx
 | binOp op t x y u=>
  simp only[okOp,Bool.and_eq_true]at ho;exact j19 ((jm9 H (hρ x ho.1) (hρ y ho.2)).bind λ_ _=>jsk H (hρ x ho.1) (hρ y ho.2))
 | unOp op t x=>exact j19 jst
 | convert s d x=>exact j19 (jm8 H (hρ x ho))
 | makeInterface t x=>
  simp only[okOp,Bool.and_eq_true,decide_eq_true_eq]at ho;exact j19 (jag H ho.1 (hρ x ho.2))
 | makeFunc fn first cap=>
  simp only[okOp,Bool.and_eq_true]at ho;refine j19 (j7 (.func (jpr ho.1.1) ?_ ?_))
  ·intro v hv;obtain⟨y,hy,rfl⟩:=Array.mem_map.1 hv;exact hρ y (List.all_eq_true.1 ho.1.2 y (by simpa using hy))
  ·intro v hv;obtain⟨y,hy,rfl⟩:=Array.mem_map.1 hv;exact hρ y (List.all_eq_true.1 ho.2 y (by simpa using hy))
 | makeSlice t l c=>exact j19 (jgg H)
 | slice t x lo hi mx=>
  simp only[okOp,Bool.and_eq_true]at ho;exact j19 (jme H (hρ x ho.1.1.1))
 | fieldAddr s x f=>exact j19 (jmc H (hρ x ho))
 | field t x f=>exact j19 (jsn H (hρ x ho))
 | indexAddr t x i=>
  simp only[okOp,Bool.and_eq_true]at ho;exact j19 (jmd H (hρ x ho.1))
 | index t x i=>
  simp only[okOp,Bool.and_eq_true]at ho;exact j19 (jso H (hρ x ho.1))
 | range t x=>exact j19 (jsq H (hρ x ho))
 | next it s=>
  simp only[okOp,Bool.and_eq_true]at ho;obtain⟨rfl,ho⟩:=ho;exact j19 (jv5 (hρ it ho))
 | typeAssert x t u ok=>
  simp only[okOp,Bool.and_eq_true,decide_eq_true_eq]at ho;exact j19 (jez H (hρ x ho.2) ho.1)
 | extract x i=>exact j19 (jmb (hρ x ho))
 | call c=>exact(jdu ho hρ).bind λd hd=>j5w hcall H hd
 | defer c=>exact(jdu ho hρ).bind λd hd=>j7 hd
 | panic x=>exact j19 (jsp H (hρ x ho))
 | _=>cases ho
end
end Go.Proofs.Mn
namespace Go.Proofs.Mn
open Go Go.Conc
variable [Atom]
def okCode (gs:Nat):Code->Bool
 | .skip|.ret|.exit _|.refuse _=>true
 | .region _ ops _=>ops.toList.all λo=>okOp gs o.op
 | .seq a b=>okCode gs a&&okCode gs b
 | .cond c a b=>okOperand gs c&&okCode gs a&&okCode gs b
 | .block _ b|.loop b=>okCode gs b
 | _=>false
def okItem (gs:Nat):Item->Bool
 | .code c|.inLoop c=>okCode gs c
 | .inBlock _=>true
 | .inRegion ops _=>ops.toList.all λo=>okOp gs o.op
 | _=>false
structure CF (P' P:Program)(X:Nat->Prop)(fr:Frame):Prop where
 tmps:∀v∈fr.tmps,CV X v
 todo:∀i∈fr.todo,okItem P.globals.size i=true
 defers:∀d∈fr.defers,CD X d
 mode:∀chain,fr.mode=.panicking chain->∀e∈chain,CV X e.v
 kind:fr.kind≠.early/\fr.kind≠.report
 round:fr.roundOf=none
 fn:P'.funcs[fr.fn]?=P.funcs[fr.fn]?/\∃fn,P.funcs[fr.fn]?=some fn
theorem CF.mono {P' P:Program}{X Y:Nat->Prop}{fr:Frame}(hXY:∀b,Y b->X b)(h:CF P' P X fr):CF P' P Y fr:=
 ⟨λv hv=>(h.tmps v hv).mono hXY,h.todo,λd hd=>(h.defers d hd).mono hXY,λch e x hx=>(h.mode ch e x hx).mono hXY,h.kind,h.round,h.fn⟩
structure Twin (P' P:Program)(X:Nat->Prop)(pass:FuncId):Prop extends Pair P' P X where
 call:∀f args,(∀v∈args,CV X v)->Cl P' P X (CN P' P X pass) (callFunc f args) (callFunc f args)
 code:∀f fn c,f≠pass->P'.funcs[f]?=P.funcs[f]?->P.funcs[f]?=some fn->fn.body=some c->okCode P.globals.size c=true
def _root_.Go.Goroutine.over (g:Goroutine)(base:List Frame):Goroutine:={ g with callers:=g.callers++base }
def BaseOk (base:List Frame):Prop:=∀c cs,base=c::cs->c.mode=.run/\c.kind=.normal
theorem j3c {base:List Frame}(hb:BaseOk base):∀{cs:List Frame}{fr:Frame},tryRecover fr (cs++base)=(tryRecover fr cs).map λr=>(r.1,r.2++base):=by
 intro cs;induction cs with
 | nil=>
  intro fr;cases base with
  | nil=>
   have:tryRecover fr []=none:=by unfold tryRecover;cases fr.kind<;>rfl
   simp[this]
  | cons c cs=>
   obtain⟨hm,hk⟩:=hb c cs rfl;unfold tryRecover;cases hfk:fr.kind with
   | deferred=>simp[hm]
   | wrapped=>
    have:tryRecover c cs=none:=by unfold tryRecover;simp[hk]
    simp[this]
   | _=>simp
 | cons c cs ih=>
  intro fr;unfold tryRecover;cases hfk:fr.kind with
  | deferred=>
   simp only[List.cons_append];split<;>simp
  | wrapped=>
   simp only[List.cons_append,ih,Option.map_map];congr 1
  | _=>simp
def Goes1 [Stays](P' P:Program)(X:Nat->Prop)(pass:FuncId)(base:List Frame)(s0:Nat)(g1:Goroutine)(w1:World)(r:GStep):Prop:=
 ∃w1' es',Agree X w1 w1'/\CW X w1/\s0<=w1.heap.size/\(∀e∈es',EvC X w1 e) /\
  ((r=.go (g1.over base) w1' es'/\CF P' P X g1.frame/\(∀c∈g1.callers,CF P' P X c)/\g1.status=.running/\g1.dying=none/\g1.offers=none) \/
     ∃args kind fr cs,kind≠.early/\kind≠.report/\(∀v∈args,CV X v)/\CF P' P X fr/\(∀c∈cs,CF P' P X c)/\g1={ frame:=Frame.enter P' pass args kind,callers:=fr::cs,status:=.running,dying:=none } /\
    r=.go { frame:=Frame.enter P pass args kind,callers:=fr::cs++base,status:=.running,dying:=none } w1' es')
section
variable {P' P:Program}{X:Nat->Prop}{pass:FuncId}{fr:Frame}{cs:List Frame}{w w':World}
theorem CF.eval (H:Pair P' P X)(h:CF P' P X fr)(x:Operand)(hx:okOperand P.globals.size x=true):CV X (fr.eval x):=by
 cases x with
 | tmp t=>exact jj4 h.tmps j3w t
 | const v=>exact jcf 8 v hx
 | global g=>
  refine j1w λhg=>?_;have:=H.high _ hg;simp only[okOperand,decide_eq_true_eq]at hx;simp only at this;omega
 | func f=>exact .func trivial (by simp) (by simp)
theorem CF.finish (h:CF P' P X fr){v:Value}(hv:CV X v):CF P' P X (fr.finish v):=by
 unfold Frame.finish;split
 ·rename_i ops i rest k e
  refine⟨?_,?_,h.defers,h.mode,h.kind,h.round,h.fn⟩
  ·dsimp only;split
   ·intro x hx;rcases Array.mem_or_eq_of_mem_setIfInBounds hx with h1|h1
    ·exact h.tmps x h1
    ·rw[h1];exact hv
   ·exact h.tmps
  ·intro x hx;have hk:=h.todo;rw[e]at hk;simp only[List.mem_cons]at hx;rcases hx with rfl|hx
   ·exact hk (.inRegion ops (i::rest)) (by simp)
   ·exact hk x (by simp[hx])
 all_goals first|exact h|(rename_i e;have ht:=h.todo _ (by rw[e];exact List.mem_cons_self);cases ht)
theorem CF.raise (h:CF P' P X fr){vs:List PanicEntry}(hv:∀e∈vs,CV X e.v):CF P' P X (fr.raise vs):=by
 unfold Frame.raise;split
 ·rename_i chain e
  refine⟨h.tmps,h.todo,h.defers,?_,h.kind,h.round,h.fn⟩;intro ch ech x hx;cases ech;rcases List.mem_append.1 hx with h1|h1
  ·exact hv x h1
  ·exact h.mode _ e x h1
 ·exact⟨h.tmps,h.todo,h.defers,by intro ch ech;cases ech;exact hv,h.kind,h.round,h.fn⟩
theorem CF.to (h:CF P' P X fr){todo:List Item}(ht:∀i∈todo,okItem P.globals.size i=true):CF P' P X { fr with todo }:=
 ⟨h.tmps,ht,h.defers,h.mode,h.kind,h.round,h.fn⟩
theorem CF.enter (T:Twin P' P X pass){f:FuncId}{args:Array Value}{kind:CallKind}(ha:∀v∈args,CV X v)(hk:kind≠.early/\kind≠.report)(hf:f≠pass)(he:P'.funcs[f]?=P.funcs[f]?){fn:Func}(hfn:P.funcs[f]?=some fn)(hb:fn.body.isSome=true) :
  Frame.enter P' f args kind=Frame.enter P f args kind/\CF P' P X (Frame.enter P f args kind):=by
 refine⟨by simp only[Frame.enter,he],?_,?_,by simp[Frame.enter],by simp[Frame.enter],hk,rfl,he,fn,hfn⟩
 ·refine j1z ha ?_;intro v hv;rw[Array.eq_of_mem_replicate hv];exact j3w
 ·intro i hi;simp only[Frame.enter,hfn,Option.bind_some,List.mem_singleton]at hi;subst hi;obtain⟨c,hc⟩:=Option.isSome_iff_exists.1 hb;rw[hc,Option.getD_some];exact T.code f fn c hf he hfn hc
theorem j5o:∀{cs:List Frame}{fr:Frame}{v:Value}{cs':List Frame},CF P' P X fr->(∀c∈cs,CF P' P X c)->tryRecover fr cs=some (v,cs')->CV X v/\∀c∈cs',CF P' P X c:=by
 intro cs;induction cs with
 | nil=>
  intro fr v cs' h hc e;unfold tryRecover at e;split at e
  ·rename_i e1;cases e1
  ·rename_i e1;cases e1
  ·cases e
 | cons c cs ih=>
  intro fr v cs' h hc e;unfold tryRecover at e;split at e
  ·rename_i caller rest _ e1
   cases e1;have hcl:=hc c (by simp);split at e
   ·rename_i v0 older em
    cases e;refine⟨hcl.mode _ em _ List.mem_cons_self,?_⟩;intro x hx;simp only[List.mem_cons]at hx;rcases hx with rfl|hx
    ·refine⟨hcl.tmps,hcl.todo,hcl.defers,?_,hcl.kind,hcl.round,hcl.fn⟩;intro ch ech y hy;cases ech;simp only[List.mem_cons]at hy;rcases hy with rfl|hy
     ·have:=hcl.mode _ em _ List.mem_cons_self;exact this
     ·exact hcl.mode _ em y (by simp[hy])
    ·exact hc x (by simp[hx])
   ·cases e
  ·rename_i wrapper rest _ e1
   cases e1;obtain⟨⟨v1,rest'⟩,h1,h2⟩:=Option.map_eq_some_iff.1 e;cases h2;obtain⟨h3,h4⟩:=ih (hc c (by simp)) (λx hx=>hc x (by simp[hx])) h1;exact⟨h3,λx hx=>(List.mem_cons.1 hx).elim (λe=>e▸hc c (by simp)) (h4 x)⟩
  ·cases e
end
end Go.Proofs.Mn
