/-
  A part of the proof.
-/
import Derived.Shelf.Strings.Builder1
import Derived.Shelf.Strings.BuilderF
import Derived.Shelf.Strings.BuilderK
import Derived.Shelf.Strconv.Itoa0
import Derived.Shelf.Strconv.Itoa1
import Derived.Shelf.LaysM
import Derived.Shelf.Strconv.Itoa2
import Derived.Shelf.Strconv.Itoa3
import Derived.Shelf.Strings.Search1
import Derived.Shelf.Strings.Search2
import Derived.Shelf.Strings.Search3
import Derived.Shelf.Strings.Count
import Derived.Shelf.Strings.Shaped
import Derived.Shelf.Strings.Split
import Derived.Shelf.Strings.SplitShaped
import Derived.Shelf.Unicode.DecodeSlow
import Derived.Lib.Split
import Derived.Lib.IndexLaws
import Derived.Test.YtbcegllhelfijaaGreatDoorY16
set_option linter.all false
set_option maxRecDepth 100000
set_option maxHeartbeats 8000000
namespace Go.Proofs
open Go.Shelf
def Twn.lays169_ren:Go.Shelf.Ren:=⟨fun|169=>26|n=>n,fun|70=>41|9=>9|0=>0|72=>43|37=>22|127=>69|3=>3|5=>5|n=>n,fun|n=>n⟩
theorem Twn.lays169:Go.Proofs.Lays.n169 tnp Twn.lays169_ren:={
 mixed:=by kernel_rfl
 f169:=Twn.func26.trans (congrArg some (by kernel_rfl))
 t0:=Twn.underlying0
 a0:=Twn.isAgg0
 z0:=Twn.sizeOf0
 v0:=Twn.zeroValue0
 t3:=Twn.underlying3
 a3:=Twn.isAgg3
 z3:=Twn.sizeOf3
 v3:=Twn.zeroValue3
 t9:=Twn.underlying9
 a9:=Twn.isAgg9
 z9:=Twn.sizeOf9
 v9:=Twn.zeroValue9
 t37:=Twn.underlying22
 a37:=Twn.isAgg22
 z37:=Twn.sizeOf22
 v37:=Twn.zeroValue22
 t70:=Twn.underlying41
 a70:=Twn.isAgg41
 z70:=Twn.sizeOf41
 v70:=Twn.zeroValue41
 t72:=Twn.underlying43
 a72:=Twn.isAgg43
 z72:=Twn.sizeOf43
 v72:=Twn.zeroValue43
 t127:=Twn.underlying69
 a127:=Twn.isAgg69
 z127:=Twn.sizeOf69
 v127:=Twn.zeroValue69 }
theorem Twn.Builder_Extra_169:Builder.Extra tnp Twn.lays169_ren:={
 sizeBuilder:=by kernel_rfl
 liesBuilder:=by kernel_rfl
 t5:=Twn.underlying5
 a5:=Twn.isAgg5
 z5:=Twn.sizeOf5
 v5:=Twn.zeroValue5
 infoByte:=by kernel_rfl
 cellsByte:=by kernel_rfl
 sizeByte:=by kernel_rfl
 neB5:=by decide }
open Go.RowKit in
theorem Twn.Builder_String_any_k (B b:Nat)(l:List UInt8)(w:World)(h:Lib.IsBuilderF 43 5 B b (Lib.byteCells l) w)(hBw:B<=w.heap.size) :
  Calls tnp 26 #[.pointer (some ⟨b,0,none⟩)] w λe w'=>e=.returned (.string ⟨l.toArray⟩)/\(Lib.IsBuilderF 43 5 B b (Lib.byteCells l) w'/\Below B w w'/\Lib.OthersKept 5 (some b) w w'):=Any.Builder_String_any_k Twn.lays169 Twn.Builder_Extra_169 B b l w h hBw
def Twn.laysM171_ren:Go.Shelf.Ren:=⟨fun|171=>104|243=>124|246=>137|283=>163|284=>164|285=>165|286=>166|129=>174|317=>173|318=>175|319=>176|320=>177|337=>181|338=>182|n=>n,fun|3=>3|9=>9|2=>2|4=>4|171=>178|0=>0|53=>148|37=>22|5=>5|173=>181|212=>201|51=>123|20=>20|213=>202|46=>114|232=>210|233=>211|n=>n,fun|17=>4|18=>5|19=>6|n=>n⟩
theorem Twn.laysM171:Go.Proofs.LaysM.n171 tnp Twn.laysM171_ren:={
 mixed:=by kernel_rfl
 f129:=Twn.func174.trans (congrArg some (by kernel_rfl))
 f171:=Twn.func104.trans (congrArg some (by kernel_rfl))
 f243:=Twn.func124.trans (congrArg some (by kernel_rfl))
 f246:=Twn.func137.trans (congrArg some (by kernel_rfl))
 f283:=Twn.func163.trans (congrArg some (by kernel_rfl))
 f284:=Twn.func164.trans (congrArg some (by kernel_rfl))
 f285:=Twn.func165.trans (congrArg some (by kernel_rfl))
 f286:=Twn.func166.trans (congrArg some (by kernel_rfl))
 f317:=Twn.func173.trans (congrArg some (by kernel_rfl))
 f318:=Twn.func175.trans (congrArg some (by kernel_rfl))
 f319:=Twn.func176.trans (congrArg some (by kernel_rfl))
 f320:=Twn.func177.trans (congrArg some (by kernel_rfl))
 f337:=Twn.func181.trans (congrArg some (by kernel_rfl))
 f338:=Twn.func182.trans (congrArg some (by kernel_rfl))
 t0:=Twn.underlying0
 a0:=Twn.isAgg0
 z0:=Twn.sizeOf0
 v0:=Twn.zeroValue0
 t2:=Twn.underlying2
 a2:=Twn.isAgg2
 z2:=Twn.sizeOf2
 v2:=Twn.zeroValue2
 t3:=Twn.underlying3
 a3:=Twn.isAgg3
 z3:=Twn.sizeOf3
 v3:=Twn.zeroValue3
 t4:=Twn.underlying4
 a4:=Twn.isAgg4
 z4:=Twn.sizeOf4
 v4:=Twn.zeroValue4
 t5:=Twn.underlying5
 a5:=Twn.isAgg5
 z5:=Twn.sizeOf5
 v5:=Twn.zeroValue5
 t9:=Twn.underlying9
 a9:=Twn.isAgg9
 z9:=Twn.sizeOf9
 v9:=Twn.zeroValue9
 t20:=Twn.underlying20
 a20:=Twn.isAgg20
 z20:=Twn.sizeOf20
 v20:=Twn.zeroValue20
 t37:=Twn.underlying22
 a37:=Twn.isAgg22
 z37:=Twn.sizeOf22
 v37:=Twn.zeroValue22
 t46:=Twn.underlying114
 a46:=Twn.isAgg114
 z46:=Twn.sizeOf114
 v46:=Twn.zeroValue114
 t51:=Twn.underlying123
 a51:=Twn.isAgg123
 z51:=Twn.sizeOf123
 v51:=Twn.zeroValue123
 t53:=Twn.underlying148
 a53:=Twn.isAgg148
 z53:=Twn.sizeOf148
 v53:=Twn.zeroValue148
 t171:=Twn.underlying178
 a171:=Twn.isAgg178
 z171:=Twn.sizeOf178
 v171:=Twn.zeroValue178
 t173:=Twn.underlying181
 a173:=Twn.isAgg181
 z173:=Twn.sizeOf181
 v173:=Twn.zeroValue181
 t212:=Twn.underlying201
 a212:=Twn.isAgg201
 z212:=Twn.sizeOf201
 v212:=Twn.zeroValue201
 t213:=Twn.underlying202
 a213:=Twn.isAgg202
 z213:=Twn.sizeOf202
 t232:=Twn.underlying210
 a232:=Twn.isAgg210
 z232:=Twn.sizeOf210
 v232:=Twn.zeroValue210
 t233:=Twn.underlying211
 a233:=Twn.isAgg211
 z233:=Twn.sizeOf211
 v233:=Twn.zeroValue211
 g17:=by kernel_rfl
 g18:=by kernel_rfl
 g19:=by kernel_rfl
 i0:=by kernel_rfl
 i2:=by kernel_rfl
 i3:=by kernel_rfl
 i4:=by kernel_rfl
 i5:=by kernel_rfl
 i9:=by kernel_rfl
 i20:=by kernel_rfl
 i37:=by kernel_rfl
 i46:=by kernel_rfl
 i51:=by kernel_rfl
 i53:=by kernel_rfl
 i171:=by kernel_rfl
 i173:=by kernel_rfl
 i212:=by kernel_rfl
 i232:=by kernel_rfl
 i233:=by kernel_rfl
 m17:=by kernel_rfl
 m18:=by kernel_rfl
 m19:=by kernel_rfl }
open Go.RowKit Go.Sort Go.Lib in
theorem Twn.strconv_Itoa (n:Int)(h0:-9223372036854775808<=n)(h1:n<=9223372036854775807)(w:World)(htab:Lib.TabIs tnp w "internal/strconv.uint64pow10" .u64 Lib.pow10Tab) :
  Calls tnp 104 #[.int .i64 n] w λe w'=>e=.returned (.string ⟨(Lib.itoa n).toArray⟩)/\∃k os,w'=grow (w.drewN k) os:=Any.strconv_Itoa Twn.laysM171 n h0 h1 w htab
def Twn.lays171_ren:Go.Shelf.Ren:=⟨fun|171=>104|243=>124|246=>137|283=>163|284=>164|285=>165|286=>166|129=>174|317=>173|318=>175|319=>176|320=>177|337=>181|338=>182|n=>n,fun|3=>3|9=>9|2=>2|4=>4|171=>178|0=>0|53=>148|37=>22|5=>5|173=>181|212=>201|51=>123|20=>20|213=>202|46=>114|232=>210|233=>211|n=>n,fun|17=>4|18=>5|19=>6|n=>n⟩
theorem Twn.lays171:Go.Proofs.Lays.n171 tnp Twn.lays171_ren:={
 mixed:=by kernel_rfl
 f129:=Twn.func174.trans (congrArg some (by kernel_rfl))
 f171:=Twn.func104.trans (congrArg some (by kernel_rfl))
 f243:=Twn.func124.trans (congrArg some (by kernel_rfl))
 f246:=Twn.func137.trans (congrArg some (by kernel_rfl))
 f283:=Twn.func163.trans (congrArg some (by kernel_rfl))
 f284:=Twn.func164.trans (congrArg some (by kernel_rfl))
 f285:=Twn.func165.trans (congrArg some (by kernel_rfl))
 f286:=Twn.func166.trans (congrArg some (by kernel_rfl))
 f317:=Twn.func173.trans (congrArg some (by kernel_rfl))
 f318:=Twn.func175.trans (congrArg some (by kernel_rfl))
 f319:=Twn.func176.trans (congrArg some (by kernel_rfl))
 f320:=Twn.func177.trans (congrArg some (by kernel_rfl))
 f337:=Twn.func181.trans (congrArg some (by kernel_rfl))
 f338:=Twn.func182.trans (congrArg some (by kernel_rfl))
 t0:=Twn.underlying0
 a0:=Twn.isAgg0
 z0:=Twn.sizeOf0
 v0:=Twn.zeroValue0
 t2:=Twn.underlying2
 a2:=Twn.isAgg2
 z2:=Twn.sizeOf2
 v2:=Twn.zeroValue2
 t3:=Twn.underlying3
 a3:=Twn.isAgg3
 z3:=Twn.sizeOf3
 v3:=Twn.zeroValue3
 t4:=Twn.underlying4
 a4:=Twn.isAgg4
 z4:=Twn.sizeOf4
 v4:=Twn.zeroValue4
 t5:=Twn.underlying5
 a5:=Twn.isAgg5
 z5:=Twn.sizeOf5
 v5:=Twn.zeroValue5
 t9:=Twn.underlying9
 a9:=Twn.isAgg9
 z9:=Twn.sizeOf9
 v9:=Twn.zeroValue9
 t20:=Twn.underlying20
 a20:=Twn.isAgg20
 z20:=Twn.sizeOf20
 v20:=Twn.zeroValue20
 t37:=Twn.underlying22
 a37:=Twn.isAgg22
 z37:=Twn.sizeOf22
 v37:=Twn.zeroValue22
 t46:=Twn.underlying114
 a46:=Twn.isAgg114
 z46:=Twn.sizeOf114
 v46:=Twn.zeroValue114
 t51:=Twn.underlying123
 a51:=Twn.isAgg123
 z51:=Twn.sizeOf123
 v51:=Twn.zeroValue123
 t53:=Twn.underlying148
 a53:=Twn.isAgg148
 z53:=Twn.sizeOf148
 v53:=Twn.zeroValue148
 t171:=Twn.underlying178
 a171:=Twn.isAgg178
 z171:=Twn.sizeOf178
 v171:=Twn.zeroValue178
 t173:=Twn.underlying181
 a173:=Twn.isAgg181
 z173:=Twn.sizeOf181
 v173:=Twn.zeroValue181
 t212:=Twn.underlying201
 a212:=Twn.isAgg201
 z212:=Twn.sizeOf201
 v212:=Twn.zeroValue201
 t213:=Twn.underlying202
 a213:=Twn.isAgg202
 z213:=Twn.sizeOf202
 t232:=Twn.underlying210
 a232:=Twn.isAgg210
 z232:=Twn.sizeOf210
 v232:=Twn.zeroValue210
 t233:=Twn.underlying211
 a233:=Twn.isAgg211
 z233:=Twn.sizeOf211
 v233:=Twn.zeroValue211
 g17:=by kernel_rfl
 g18:=by kernel_rfl
 g19:=by kernel_rfl }
open Go.RowKit Go.Sort Go.Lib in
theorem Twn.strconv_Itoa_small (i:Nat)(hi:i<100)(w:World) :
  Calls tnp 104 #[.int .i64 i] w λe w'=>e=.returned (.string ⟨(Lib.decDigits i).toArray⟩)/\w'=w:=Any.strconv_Itoa_small Twn.lays171 i hi w
def Twn.lays146_ren:Go.Shelf.Ren:=⟨fun|146=>22|221=>33|268=>51|138=>52|143=>53|195=>72|197=>73|218=>74|219=>75|260=>92|217=>93|225=>94|224=>95|267=>96|266=>111|314=>112|n=>n,fun|9=>9|31=>44|3=>3|4=>4|0=>0|105=>102|21=>21|5=>5|46=>114|119=>119|139=>122|138=>121|146=>124|51=>123|n=>n,fun|1=>0|3=>1|4=>2|n=>n⟩
theorem Twn.lays146:Go.Proofs.Lays.n146 tnp Twn.lays146_ren:={
 mixed:=by kernel_rfl
 f138:=Twn.func52.trans (congrArg some (by kernel_rfl))
 f143:=Twn.func53.trans (congrArg some (by kernel_rfl))
 f146:=Twn.func22.trans (congrArg some (by kernel_rfl))
 f195:=Twn.func72.trans (congrArg some (by kernel_rfl))
 f197:=Twn.func73.trans (congrArg some (by kernel_rfl))
 f217:=Twn.func93.trans (congrArg some (by kernel_rfl))
 f218:=Twn.func74.trans (congrArg some (by kernel_rfl))
 f219:=Twn.func75.trans (congrArg some (by kernel_rfl))
 f221:=Twn.func33.trans (congrArg some (by kernel_rfl))
 f224:=Twn.func95.trans (congrArg some (by kernel_rfl))
 f225:=Twn.func94.trans (congrArg some (by kernel_rfl))
 f260:=Twn.func92.trans (congrArg some (by kernel_rfl))
 f266:=Twn.func111.trans (congrArg some (by kernel_rfl))
 f267:=Twn.func96.trans (congrArg some (by kernel_rfl))
 f268:=Twn.func51.trans (congrArg some (by kernel_rfl))
 f314:=Twn.func112.trans (congrArg some (by kernel_rfl))
 t0:=Twn.underlying0
 a0:=Twn.isAgg0
 z0:=Twn.sizeOf0
 v0:=Twn.zeroValue0
 t3:=Twn.underlying3
 a3:=Twn.isAgg3
 z3:=Twn.sizeOf3
 v3:=Twn.zeroValue3
 t4:=Twn.underlying4
 a4:=Twn.isAgg4
 z4:=Twn.sizeOf4
 v4:=Twn.zeroValue4
 t5:=Twn.underlying5
 a5:=Twn.isAgg5
 z5:=Twn.sizeOf5
 v5:=Twn.zeroValue5
 t9:=Twn.underlying9
 a9:=Twn.isAgg9
 z9:=Twn.sizeOf9
 v9:=Twn.zeroValue9
 t21:=Twn.underlying21
 a21:=Twn.isAgg21
 z21:=Twn.sizeOf21
 v21:=Twn.zeroValue21
 t31:=Twn.underlying44
 a31:=Twn.isAgg44
 z31:=Twn.sizeOf44
 v31:=Twn.zeroValue44
 t46:=Twn.underlying114
 a46:=Twn.isAgg114
 z46:=Twn.sizeOf114
 v46:=Twn.zeroValue114
 t51:=Twn.underlying123
 a51:=Twn.isAgg123
 z51:=Twn.sizeOf123
 v51:=Twn.zeroValue123
 t105:=Twn.underlying102
 a105:=Twn.isAgg102
 z105:=Twn.sizeOf102
 v105:=Twn.zeroValue102
 t119:=Twn.underlying119
 a119:=Twn.isAgg119
 z119:=Twn.sizeOf119
 t138:=Twn.underlying121
 a138:=Twn.isAgg121
 z138:=Twn.sizeOf121
 v138:=Twn.zeroValue121
 t139:=Twn.underlying122
 a139:=Twn.isAgg122
 z139:=Twn.sizeOf122
 v139:=Twn.zeroValue122
 t146:=Twn.underlying124
 a146:=Twn.isAgg124
 z146:=Twn.sizeOf124
 v146:=Twn.zeroValue124
 g1:=by kernel_rfl
 g3:=by kernel_rfl
 g4:=by kernel_rfl }
open Go.RowKit Go.Lib in
theorem Twn.strings_Split (s sep:ByteArray)(m:Int)(w:World)(hs:s.size<4294967281)(hm:w.cell? ⟨0,0,none⟩=some (.int .i64 m))(h1:1<=sep.size) :
  Calls tnp 22 #[.string s,.string sep] w λe w'=>
   e=.returned (.slice (some ⟨w.heap.size,0,none⟩) (Lib.countB s sep+1) (Lib.countB s sep+1))/\w'=w.alloc (.cells ((Lib.splitB sep 0 (Lib.countB s sep) s).map Value.string).toArray 9):=Any.strings_Split Twn.lays146 (by kernel_rfl) s sep m w hs hm h1
end Go.Proofs
namespace Go.Proofs.T
open Lib (hid)
open Go.RowKit
def updT (u:Upd):List UInt8:=(Lib.decDigits u.1.toNat++[61])++Lib.decDigits u.2.toNat
def updText (u:Upd):List UInt8:=if updOk u=true then updT u else[]
theorem j7c {u:Upd}(h:updOk u=true):(updT u).length<=120:=by
 have:=j6b h;have h1:=j1f u.1.toNat;have h2:=j1f u.2.toNat;simp[updT];omega
theorem jc2 (k v:Int)(h:updOk (k,v)=true)(w:World) :
  Calls tnp 85 #[.agg #[.int .i64 k,.int .i64 v]] w λe w'=>e=.returned (.string ⟨(updT (k,v)).toArray⟩)/\Below w.heap.size w w':=by
 have hu:=j6b h;obtain⟨k,rfl⟩:∃n:Nat,k=n:=⟨k.toNat,by omega⟩;obtain⟨v,rfl⟩:∃n:Nat,v=n:=⟨v.toNat,by omega⟩;have fin:(Lib.decDigits k++[61])++Lib.decDigits v=updT (k,v):=by simp[updT]
 have s0:=(St.start w).alloc (.cells #[.int .i64 k,.int .i64 v] 76);have c0:=s0.cells.1;have k0:=(c0 0).trans (show _=some (Value.int .i64 k)from rfl);have k1:=(c0 1).trans (show _=some (Value.int .i64 v)from rfl);have l1:=j1f k;have l2:=j1f v;have cat1:=j31 (P:=tnp) (Lib.decDigits k) [61] (by simp;omega);have cat2:=j31 (P:=tnp) (Lib.decDigits k++[61]) (Lib.decDigits v) (by simp;omega);have hk:k<100:=by omega
 have hv:v<100:=by omega
 have FIN:=hid fin;have g0:=jf k0;have g1:=jf k1;have HG:=hid (λx=>s0.call (j1b x));clear c0 k0 k1 s0 fin h hu l1 l2;go_enter Twn.func85,Tryz.ntmps85
 go_wp2_with fail
 refine jm (by kernel_rfl) (by kernel_rfl) ?_;repeat (go_big_quiet_step (((go_at_call 30;exact Calls.grow_of (j2g _ (by omega) _)))))
 refine wpQuiet_nil ?_;rintro _ ⟨x,rfl⟩;go_wp2_with fail
 exact bodyPost_ret (v:=.string ⟨((Lib.decDigits k++[61])++Lib.decDigits v).toArray⟩) (by simp[results,Tryz.results85,go_sem]) rfl ⟨by rw[FIN.out],(HG.out _).below⟩
theorem j53 (k v:Int)(w:World) :
  Calls tnp 144 #[.agg #[.int .i64 k,.int .i64 v]] w λe w'=>e=.returned (.bool (updOk (k,v)))/\Below w.heap.size w w':=by
 have s0:=(St.start w).alloc (.cells #[.int .i64 k,.int .i64 v] 76);have c:=s0.cells.1;go_enter Twn.func144,Tryz.ntmps144
 go_wp2_with fail
 refine(j7d _ _ _).mono ?_;rintro e w1 ⟨rfl,hb⟩;have s1:=s0.call hb;go_wp2_with fail
 go_ret
 exact⟨rfl,s1.below⟩
theorem jan (k v:Int)(w:World) :
  Calls tnp 141 #[.agg #[.int .i64 k,.int .i64 v]] w λe w'=>e=.returned (.string ⟨(updText (k,v)).toArray⟩)/\Below w.heap.size w w':=by
 have s0:=(St.start w).alloc (.cells #[.int .i64 k,.int .i64 v] 76);go_enter Twn.func141,Tryz.ntmps141
 go_wp2_with fail
 refine(j53 _ _ _).mono ?_;rintro e w1 ⟨rfl,hb⟩;have s1:=s0.call hb;obtain⟨c,f⟩:=s1.cells;cases h:updOk (k,v)with
 | false=>
  have FIN:Hid (updText (k,v)=[]):=hid (by simp[updText,h]);go_wp2_with fail
  exact bodyPost_ret (v:=.string ⟨#[]⟩) (by simp[results,Tryz.results141,go_sem]) rfl ⟨by rw[FIN.out],s1.below⟩
 | true=>
  have fin:updText (k,v)=updT (k,v):=by simp[updText,h]
  have hu:=j6b h;obtain⟨k,rfl⟩:∃n:Nat,k=n:=⟨k.toNat,by omega⟩;obtain⟨v,rfl⟩:∃n:Nat,v=n:=⟨v.toNat,by omega⟩;rw[show updT ((k:Int),(v:Int))=(Lib.decDigits k++[61])++Lib.decDigits v by simp[updT]]at fin;have k0:=(c 0).trans (show _=some (Value.int .i64 k)from rfl);have k1:=(c 1).trans (show _=some (Value.int .i64 v)from rfl);have l1:=j1f k;have l2:=j1f v;have cat1:=j31 (P:=tnp) (Lib.decDigits k) [61] (by simp;omega);have cat2:=j31 (P:=tnp) (Lib.decDigits k++[61]) (Lib.decDigits v) (by simp;omega);have hk:k<100:=by omega
  have hv:v<100:=by omega
  have FIN:=hid fin;have g0:=jf k0;have g1:=jf k1;have HG:=hid (λx=>s1.call (j1b x));clear c k0 k1 s0 s1 fin h hu l1 l2;go_wp2_with fail
  refine jm (by kernel_rfl) (by kernel_rfl) ?_;repeat (go_big_quiet_step (((go_at_call 104;exact Calls.grow_same ((Twn.strconv_Itoa_small _ (by omega) _).mono λ_ _ h=>⟨h.1,h.2.symm⟩)))))
  refine wpQuiet_nil ?_;rintro _ ⟨x,rfl⟩;go_wp2_with fail
  exact bodyPost_ret (v:=.string ⟨((Lib.decDigits k++[61])++Lib.decDigits v).toArray⟩) (by simp[results,Tryz.results141,go_sem]) rfl ⟨by rw[FIN.out],(HG.out _).below⟩
end Go.Proofs.T
set_option linter.unusedVariables false
namespace Go.Proofs.T
open Lib (hid)
open Go.RowKit
abbrev Bld (B b:Nat)(l:List UInt8)(w:World):Prop:=Lib.IsBuilderF 43 5 B b (Lib.byteCells l) w
theorem Bld.below {B b:Nat}{l:List UInt8}{w w':World}(h:Bld B b l w)(hb:Below w.heap.size w w'):Bld B b l w':=by
 have go:∀p,Lib.BuilderAtF 43 5 B b p (Lib.byteCells l) w->Lib.BuilderAtF 43 5 B b p (Lib.byteCells l) w':=λp h=>by
  have hlt:=h.lt;obtain⟨hB,v,hk,hown,hne⟩:=h;exact⟨hB,v,(hb.block b hlt).trans hk,hown.kept (j2s hb none) (by cases hv:v.ownBlock<;>simp),hne⟩
 exact h.elim (λx=>.inl (go _ x)) λx=>.inr (go _ x)
theorem Bld.lt {B b:Nat}{l:List UInt8}{w:World}(h:Bld B b l w):B<=b/\b<w.heap.size:=h.elim (λx=>⟨x.1,x.lt⟩) λx=>⟨x.1,x.lt⟩
theorem Bld.new (w:World):Bld w.heap.size w.heap.size [] (w.alloc (.cells #[.pointer none,.slice none 0 0] 43)):=
 .inl ⟨Nat.le_refl _,.slice none 0 0,heap_alloc_new w _,World.ownsRowF_of (World.ownsRow_nil _ _ _ 1),by simp[Value.ownBlock]⟩
theorem jd6 (b:Nat)(w:World)(h0:w.cell? ⟨b,0,none⟩=some (.pointer (some ⟨b,0,none⟩))) :
  Calls tnp 34 #[.pointer (some ⟨b,0,none⟩)] w λe w'=>e=.returned (.tuple #[])/\w'=w:=by
 obtain⟨j,hj,_⟩:=Option.map_eq_some_iff.1 Twn.Builder_Extra_169.sizeBuilder;go_enter Twn.func34,Tryz.ntmps34
 go_wp2
 rw[Lib.run_neq_ptr_same w _ Twn.underlying41 hj]
 go_wp2
 go_end0
 exact⟨rfl,rfl⟩
theorem jbl (b:Nat)(w:World)(h0:w.cell? ⟨b,0,none⟩=some (.pointer none))(hsh:w.shape? b=some (43,2))(hfz:w.frozen? ⟨b,0,none⟩=false) :
  Calls tnp 34 #[.pointer (some ⟨b,0,none⟩)] w λe w'=>e=.returned (.tuple #[])/\w'=w.setCell ⟨b,0,none⟩ (.pointer (some ⟨b,0,none⟩)):=by
 obtain⟨j,hj,hjs⟩:=Option.map_eq_some_iff.1 Twn.Builder_Extra_169.sizeBuilder;go_enter Twn.func34,Tryz.ntmps34
 go_wp2
 rw[Lib.run_to_unsafe w ⟨b,0,none⟩ Twn.underlying41 Twn.underlying86 hj (by rw[hjs];decide) hsh (Nat.zero_lt_succ 1)];simp only[Result.andThen];rw[Oper.upon_value]
 go_wp2
 rw[run_callFunc_extern Twn.func54 (by kernel_rfl) (by kernel_rfl) (by kernel_rfl) (e:=Extern.AbiNoEscape.same) (by kernel_rfl)];rw[Lib.run_noEscape];simp only[Result.andThen];rw[Oper.upon_value]
 go_wp2
 rw[Lib.run_from_unsafe w ⟨b,0,none⟩ Twn.underlying86 Twn.underlying41 hj hsh Twn.Builder_Extra_169.liesBuilder];simp only[Result.andThen];rw[Oper.upon_value]
 go_wp2
 go_end0
 exact⟨rfl,rfl⟩
theorem jbk (B b:Nat)(l:List UInt8)(w:World)(h:Bld B b l w) :
  Calls tnp 34 #[.pointer (some ⟨b,0,none⟩)] w λe w'=>e=.returned (.tuple #[])/\(Lib.BuilderAtF 43 5 B b (.pointer (some ⟨b,0,none⟩)) (Lib.byteCells l) w'/\Below B w w'/\Lib.OthersKept 5 (some b) w w'):=by
 rcases h with h|h
 ·refine(jbl b w h.cell0 h.shape h.frozen0).mono ?_;rintro e w' ⟨rfl,rfl⟩;exact⟨rfl,h.used _,(Below.refl B w).setCell (p:=⟨b,0,none⟩) h.1 _,(Lib.OthersKept.refl _ _ w).setCell ⟨b,0,none⟩ rfl _⟩
 ·refine(jd6 b w h.cell0).mono ?_;rintro e w' ⟨rfl,rfl⟩;exact⟨rfl,h,Below.refl B _,Lib.OthersKept.refl _ _ _⟩
theorem j1t (B b:Nat)(l m:List UInt8)(w:World)(h:Bld B b l w)(hlen:l.length+m.length<=140737488355328)(hBw:B<=w.heap.size) :
  Calls tnp 23 #[.pointer (some ⟨b,0,none⟩),.string ⟨m.toArray⟩] w λe w'=>e=.returned (.tuple #[.int .i64 m.length,.nilIface])/\(Bld B b (l++m) w'/\Below B w w'/\Lib.OthersKept 5 (some b) w w'):=by
 obtain⟨i0,hi,hz0,hz1,hz2⟩:=info_parts Twn.Builder_Extra_169.infoByte;have hsz:(⟨m.toArray⟩:ByteArray).size=m.length:=by simp[ByteArray.size]
 have hcl:(Lib.byteCells l).length=l.length:=Lib.byteCells_length l;obtain⟨s,hs⟩:∃s:ByteArray,s=⟨m.toArray⟩:=⟨_,rfl⟩;rw[<- hs]at hsz ⊢;have hc:Lib.byteCells (l++m)=Lib.byteCells l++Lib.strCells s:=by rw[hs,Lib.byteCells_append];rfl
 have HC:=hid hc;have HS:=hid hs;clear hc hs;go_enter Twn.func23,Tryz.ntmps23
 go_wp2_with (go_at_call 34;refine(jbk B b l _ h).mono ?_)
 rintro e w1 ⟨rfl,h1,hb1,hk1⟩;obtain⟨hB,v,hbk,hown,hne⟩:=h1;have c0:w1.cell? ⟨b,0,none⟩=some (.pointer (some ⟨b,0,none⟩)):=by rw[Lib.cell_of_heap hbk];rfl
 have c1:w1.cell? ⟨b,1,none⟩=some v:=by rw[Lib.cell_of_heap hbk];rfl
 go_wp2_with (at_builtin;refine Lib.wpList_append_own_stringF _ rfl _ _ 22 9 rfl B 5 i0 Twn.underlying22 Twn.underlying9 hi hz0 hz1 hz2 _ _ _ rfl hown s rfl ?c3 ?c4 ?c5 ?_)
 case c3=>unfold maxLen;omega
 case c4=>omega
 case c5=>have:=hb1.size;omega
 intro v' w2 hown' hgrow _;have hlt:b<w1.heap.size:=by
  rcases Nat.lt_or_ge b w1.heap.size with h'|h'
  ·exact h'
  ·simp[Array.getElem?_eq_none h']at hbk
 have hb2:w2.heap[b]?=some (.cells #[.pointer (some ⟨b,0,none⟩),v] 43 (0,0)):=by
  rw[hgrow.block b hlt (λe=>hne e.symm)];exact hbk
 have d0:w2.cell? ⟨b,0,none⟩=some (.pointer (some ⟨b,0,none⟩)):=by rw[Lib.cell_of_heap hb2];rfl
 have d1:w2.cell? ⟨b,1,none⟩=some v:=by rw[Lib.cell_of_heap hb2];rfl
 have f1:w2.frozen? ⟨b,1,none⟩=false:=Lib.frozen_of_heap hb2 1;obtain⟨ao,n',cap,rfl⟩:∃ao n' cap,v'=.slice ao n' cap:=by
  rcases hown'.2 with⟨hv,_⟩|⟨g,cap,cur,fz,hv,_⟩
  ·exact⟨_,_,_,hv⟩
  ·exact⟨_,_,_,hv⟩
 go_wp2
 go_ret2
 refine⟨rfl,.inr ?_,?_,(hk1.grown hgrow (Lib.ownsRowF_kind hown)).setCell ⟨b,1,none⟩ rfl _⟩
 ·rw[HC.out];exact Lib.BuilderAtF.put (T:=43) (e:=5) hB hb2 (bs':=Lib.byteCells l++Lib.strCells s) (by rw[List.length_append,Lib.strCells_length,hcl,hsz];simpa[hcl,hsz]using hown') Twn.Builder_Extra_169.neB5
 ·exact(hb1.grown hgrow (by have:=hb1.size;omega) (λk hk=>(hown.lt k hk).1)).setCell (p:=⟨b,1,none⟩) hB _
def joinT (us:List Upd):Nat->List UInt8
 | 0=>[]
 | k+1=>(if 0<k then joinT us k++[44]else joinT us k)++updT (us.getD k (0,0))
def logT (us:List Upd):List UInt8:=if us.length=0 then[45]else joinT us us.length
def logText (us:List Upd):List UInt8:=if logOk us=true then logT us else[]
theorem j4k (us:List Upd)(h:∀k,(hk:k<us.length)->updOk us[k]=true):∀k,k<=us.length->(joinT us k).length<=121*k
 | 0,_=>by simp[joinT]
 | k+1,hk=>by
  have h1:=j4k us h k (by omega);have h2:=j7c (h k (by omega));have e:us.getD k (0,0)=us[k]:=by rw[List.getD_eq_getElem?_getD,List.getElem?_eq_getElem (by omega)];rfl
  unfold joinT;rw[e];split<;>simp<;>omega
theorem jjn (us:List Upd)(h:logOk us=true):(logT us).length<=1452:=by
 obtain⟨h1,h2⟩:=j2p h;have:=j4k us h2 us.length (Nat.le_refl _);unfold logT;split<;>simp<;>omega
theorem jh1 (a:Option Addr)(cap:Nat)(us:List Upd)(w:World)(ho:logOk us=true)(hx:UpdsAt w a us) :
  Calls tnp 60 #[.slice a us.length cap] w λe w'=>e=.returned (.string ⟨(logT us).toArray⟩)/\Below w.heap.size w w':=by
 obtain⟨h12,hall⟩:=j2p ho;have HALL:=hid hall;have HO:=hid ho;clear hall ho;by_cases h0:us.length=0
 ·have FIN:Hid (logT us=[45]):=hid (by simp[logT,h0]);have z:(us.length:Int)=0:=by omega
  go_enter Twn.func60,Tryz.ntmps60
  go_wp2_with fail
  exact bodyPost_ret (v:=.string ⟨#[45]⟩) (by simp[results,Tryz.results60,go_sem]) rfl ⟨by rw[FIN.out],Below.refl _ _⟩
 ·have FIN:Hid (logT us=joinT us us.length):=hid (by simp[logT,h0]);have z:¬(us.length:Int)=0:=by omega
  have zb:((us.length:Int)==0)=false:=by simpa using z
  go_enter Twn.func60,Tryz.ntmps60
  go_wp2_with fail
  clear z h0
  go_loopw [3,4] (λt i wr=>∃k:Nat,k<=us.length/\i=.int .i64 k/\t=.string ⟨(joinT us k).toArray⟩/\Below w.heap.size w wr) (λ_ i _=>us.length-(intOf i).toNat)
  case atStart=>exact⟨0,Nat.zero_le _,rfl,rfl,Below.refl _ _⟩
  case round=>
   obtain⟨k,hk,rfl,rfl,hB⟩:=hrel;have hjl:=j4k us HALL.out k hk;by_cases hlt:k<us.length
   ·obtain⟨b,off,rfl,c0,c1⟩:=(hx.below hB).cells k hlt;have i1:(0:Int)<=(k:Int):=by omega
    have i2:(k:Int)<(us.length:Int):=by omega
    have hok:=HALL.out k hlt;have hul:=j7c hok;have hnx:joinT us (k+1)=(if 0<k then joinT us k++[44]else joinT us k)++updT us[k]:=by rw[joinT];simp[hlt]
    have LU:=hid (jc2 us[k].1 us[k].2 hok);rw[show((us[k].1,us[k].2):Upd)=us[k]from rfl]at LU;clear hok;generalize hu:updT us[k]=ut at *;generalize us[k].1=p at *;generalize us[k].2=q at *;clear hu;by_cases hk0:0<k
    ·rw[if_pos hk0]at hnx;have i3:(0:Int)<(k:Int):=by omega
     have cat1:=j31 (P:=tnp) (joinT us k) [44] (by simp;omega);have cat2:=j31 (P:=tnp) (joinT us k++[44]) ut (by simp;omega);have HN:=hid hnx;clear hnx hjl hul;go_wp2_with fail
     refine(LU.out _).mono ?_;rintro e w1 ⟨rfl,hb1⟩;go_wp2_with fail
     go_roundw
     case rel=>exact⟨k+1,hlt,by go_num,by rw[HN.out];simp,hB.trans (hb1.mono hB.size)⟩
     case measure=>simp[intOf];omega
    ·rw[if_neg hk0]at hnx;have i3:¬(0:Int)<(k:Int):=by omega
     have cat2:=j31 (P:=tnp) (joinT us k) ut (by omega);have HN:=hid hnx;clear hnx hjl hul;go_wp2_with fail
     refine(LU.out _).mono ?_;rintro e w1 ⟨rfl,hb1⟩;go_wp2_with fail
     go_roundw
     case rel=>exact⟨k+1,hlt,by go_num,by rw[HN.out],hB.trans (hb1.mono hB.size)⟩
     case measure=>simp[intOf];omega
   ·obtain rfl:k=us.length:=by omega
    go_wp2_with fail
    exact bodyPost_ret (v:=.string ⟨(joinT us us.length).toArray⟩) (by simp[results,Tryz.results60,go_sem]) rfl ⟨by rw[FIN.out],hB⟩
theorem jt9 {b:Nat}{w w':World}(h:Lib.OthersKept 5 (some b) w w'){k:Nat}{cs:Array Value}(hk:w.heap[k]?=some (.cells cs 76 (0,0)))(hne:k≠b):w'.heap[k]?=some (.cells cs 76 (0,0)):=
 h k _ hk (λe=>hne (Option.some.inj e)) (λ_ _ e=>by cases e)
theorem jfk (a:Option Addr)(cap:Nat)(us:List Upd)(w:World)(hm:us.length<=1099511627776)(hx:UpdsAt w a us) :
  Calls tnp 127 #[.slice a us.length cap] w λe w'=>e=.returned (.string ⟨(logText us).toArray⟩)/\Below w.heap.size w w':=by
 go_enter Twn.func127,Tryz.ntmps127
 go_wp2_with fail
 refine(j1e a cap us _ hm hx).mono ?_;rintro e w1 ⟨rfl,hb⟩;cases h:logOk us with
 | false=>
  have FIN:Hid (logText us=[]):=hid (by simp[logText,h]);go_wp2_with fail
  exact bodyPost_ret (v:=.string ⟨#[]⟩) (by simp[results,Tryz.results127,go_sem]) rfl ⟨by rw[FIN.out],hb⟩
 | true=>
  obtain⟨h12,hall⟩:=j2p h;have HALL:=hid hall;by_cases h0:us.length=0
  ·have FIN:Hid (logText us=[45]):=hid (by simp[logText,logT,h,h0]);have z:(us.length:Int)=0:=by omega
   clear h hall;go_wp2_with fail
   exact bodyPost_ret (v:=.string ⟨#[45]⟩) (by simp[results,Tryz.results127,go_sem]) rfl ⟨by rw[FIN.out],hb⟩
  ·have FIN:Hid (logText us=joinT us us.length):=hid (by simp[logText,logT,h,h0]);have z:¬(us.length:Int)=0:=by omega
   have zb:((us.length:Int)==0)=false:=by simpa using z
   have hx1:=hx.below hb;have bn:=Bld.new w1;have bl:Below w1.heap.size w1 (w1.alloc (.cells #[.pointer none,.slice none 0 0] 43)):=(Below.refl _ _).alloc (Nat.le_refl _) _;have BN:=hid bn;have BL:=hid bl;clear h hall bn bl;go_wp2_with fail
   clear z h0
   go_loopw [14] (λi wr=>∃k:Nat,k<=us.length/\i=.int .i64 k/\Bld w1.heap.size w1.heap.size (joinT us k) wr/\Below w1.heap.size w1 wr) (λi _=>us.length-(intOf i).toNat)
   case atStart=>exact⟨0,Nat.zero_le _,rfl,BN.out,BL.out⟩
   case round=>
    obtain⟨k,hk,rfl,hD,hB⟩:=hrel;have hjl:=j4k us HALL.out k hk;by_cases hlt:k<us.length
    ·obtain⟨b,off,rfl,c0,c1⟩:=(hx1.below hB).cells k hlt;have i1:(0:Int)<=(k:Int):=by omega
     have i2:(k:Int)<(us.length:Int):=by omega
     have hok:=HALL.out k hlt;have hul:=j7c hok;have hnx:joinT us (k+1)=(if 0<k then joinT us k++[44]else joinT us k)++updT us[k]:=by rw[joinT];simp[hlt]
     have LU:=hid (jan us[k].1 us[k].2);rw[show((us[k].1,us[k].2):Upd)=us[k]from rfl,show updText us[k]=updT us[k] by simp[updText,hok]]at LU;clear hok;generalize hu:updT us[k]=ut at *;generalize us[k].1=p at *;generalize us[k].2=q at *;clear hu;have hD2:=hD.alloc (.cells #[.int .i64 p,.int .i64 q] 76);have hB2:=hB.alloc hB.size (.cells #[.int .i64 p,.int .i64 q] 76);have hU2:=heap_alloc_new wr (.cells #[.int .i64 p,.int .i64 q] 76);have hne:wr.heap.size≠w1.heap.size:=by have:=hD.lt;omega
     have HD2:=hid hD2;have HB2:=hid hB2;have HU2:=hid hU2;have HNE:=hid hne;clear hD2 hB2 hU2 hne;by_cases hk0:0<k
     ·rw[if_pos hk0]at hnx;have i3:(0:Int)<(k:Int):=by omega
      have HN:=hid hnx;clear hnx;go_wp2_with fail
      refine(j1t _ _ _ [44] _ HD2.out (by simp;omega) HB2.out.size).mono ?_;rintro e w3 ⟨rfl,hD3,hb3,hk3⟩;have hB3:=HB2.out.trans hb3;have hU3:=jt9 hk3 HU2.out HNE.out;have d0:=(cell_of_heap (o:=0) hU3).trans (show _=some (Value.int .i64 p)from rfl);have d1:=(cell_of_heap (o:=1) hU3).trans (show _=some (Value.int .i64 q)from rfl);clear hU3 hk3 hb3;go_wp2_with fail
      refine(LU.out _).mono ?_;rintro e w4 ⟨rfl,hb4⟩;have hD4:=Bld.below hD3 hb4;have hB4:=hB3.trans (hb4.mono hB3.size);clear d0 d1;go_wp2_with fail
      refine(j1t _ _ _ ut _ hD4 (by simp;omega) hB4.size).mono ?_;rintro e w5 ⟨rfl,hD5,hb5,hk5⟩;go_wp2_with fail
      go_roundw
      case rel=>exact⟨k+1,hlt,by go_num,by rw[HN.out];exact hD5,hB4.trans hb5⟩
      case measure=>simp[intOf];omega
     ·rw[if_neg hk0]at hnx;have i3:¬(0:Int)<(k:Int):=by omega
      have HN:=hid hnx;clear hnx;have d0:=(cell_of_heap (o:=0) HU2.out).trans (show _=some (Value.int .i64 p)from rfl);have d1:=(cell_of_heap (o:=1) HU2.out).trans (show _=some (Value.int .i64 q)from rfl);go_wp2_with fail
      refine(LU.out _).mono ?_;rintro e w4 ⟨rfl,hb4⟩;have hD4:=Bld.below HD2.out hb4;have hB4:=HB2.out.trans (hb4.mono HB2.out.size);clear d0 d1;go_wp2_with fail
      refine(j1t _ _ _ ut _ hD4 (by omega) hB4.size).mono ?_;rintro e w5 ⟨rfl,hD5,hb5,hk5⟩;go_wp2_with fail
      go_roundw
      case rel=>exact⟨k+1,hlt,by go_num,by rw[HN.out];exact hD5,hB4.trans hb5⟩
      case measure=>simp[intOf];omega
    ·obtain rfl:k=us.length:=by omega
     go_wp2_with fail
     refine(Twn.Builder_String_any_k w1.heap.size w1.heap.size (joinT us us.length) _ hD hB.size).mono ?_;rintro e w2 ⟨rfl,_,hb2,_⟩;go_wp2_with fail
     exact bodyPost_ret (v:=.string ⟨(joinT us us.length).toArray⟩) (by simp[results,Tryz.results127,go_sem]) rfl ⟨by rw[FIN.out],hb.trans ((hB.trans hb2).mono hb.size)⟩
namespace Mix
section
variable {P:Program}{ops:Array Oper}{Q:Exit->Act->World->Prop}{C:World->Prop}{last:Nat}{R:Array Bool->Act->Prop}
def wpL (P:Program)(ops:Array Oper)(C:World->Prop)(R:Array Bool->Act->Prop)(last:Nat):Nat->Array Bool->Act->Prop
 | 0,listed,a=>Region.ready .any ops listed=[last]/\R listed a
 | fuel+1,listed,a=>Region.ready .any ops listed≠[]/\∀i∈Region.ready .any ops listed,qOp P ops C i (wpL P ops C R last fuel (listed.setIfInBounds i true)) a
theorem js5 {i:Nat}{oi:Oper}{v:Value}(hi:ops[i]?=some oi)(hsel:∀(j:Nat)(o:Oper) cs b,ops[j]?=some o->o.op≠.select cs b)(hlast:waitsB ops last i=true) :
  ∀(fuel:Nat) (listed:Array Bool) (a:Act),Closed ops listed ->
   (∀j oj,ops[j]?=some oj->j≠i->listed.getD j true=false->(∀e∈oj.after,Region.binds .any e=true->e.on≠i)->oi.apart ops oj=true) ->
   i∈Region.ready .any ops listed->YieldsIn P ops C oi v a ->
   wpL P ops C R last fuel (listed.setIfInBounds i true) (a.put oi.dst v)->wpL P ops C R last (fuel+1) listed a:=by
 intro fuel;induction fuel with
 | zero=>
  intro listed a hcl _ hr hy H;refine⟨List.ne_nil_of_mem hr,λj hj=>?_⟩;by_cases hji:j=i
  ·subst hji;exact hy.qOp hi H
  ·have h1:=ready_mono hj hji;rw[H.1,List.mem_singleton]at h1;subst h1;have hun:listed.getD i false=false:=by
    have h0:=(mem_ready.1 hr).1;rcases Nat.lt_or_ge i listed.size with h'|h'
    ·simp[h']at h0 ⊢;exact h0
    ·simp[Array.getElem?_eq_none h']at h0
   exact absurd hj (je4 hcl hlast hun _ (Nat.le_refl _))
 | succ fuel ih=>
  intro listed a hcl hfree hr hy H;refine⟨List.ne_nil_of_mem hr,λj hj=>?_⟩;by_cases hji:j=i
  ·subst hji;exact hy.qOp hi H
  ·have h1:=H.2 j (ready_mono hj hji);obtain⟨hjun,oj,hoj,hall⟩:=mem_ready.1 hj;have hnot:∀e∈oj.after,Region.binds .any e=true->e.on≠i:=λe he hb heq=>by
    have h1:=hall e he hb;have h0:=(mem_ready.1 hr).1;rw[heq]at h1;rcases Nat.lt_or_ge i listed.size with h'|h'
    ·simp[h']at h0 h1;rw[h0]at h1;cases h1
    ·simp[Array.getElem?_eq_none h']at h1
   have h2:=qOp_put hoj (hfree j oj hoj hji hjun hnot) (λcs b=>hsel i oi cs b hi) (λcs b=>hsel j oj cs b hoj) hy h1;have hfree':∀k ok,ops[k]?=some ok->k≠i->(listed.setIfInBounds j true).getD k true=false ->
     (∀e∈ok.after,Region.binds .any e=true->e.on≠i)->oi.apart ops ok=true:=λk ok hk hki hun hno=>by
    refine hfree k ok hk hki ?_ hno;by_cases hjk:j=k
    ·subst hjk;exact hjun
    ·rw[getD_set_ne true hjk]at hun;exact hun
   refine qOp_mono (λa' h3=>ih (listed.setIfInBounds j true) a' (hcl.set hj) hfree' (ready_mono hr (Ne.symm hji)) h3.1 ?_) h2;rw[Array.setIfInBounds_comm _ _ hji];exact h3.2
theorem js6 (hs:Region.noSelect ops=true):∀(is:List Nat)(listed:Array Bool)(a:Act),Closed ops listed->takeB ops last is listed=true->Region.ready .any ops (listAll listed is)=[last]->(∀i∈is,(ops[i]?).isSome=true) ->
  wpQuiet P ops C (R (listAll listed is)) (pickOps ops is) a->wpL P ops C R last is.length listed a
 | [],_,_,_,_,hR,_,h=>⟨hR,by simpa[pickOps,listAll,wpQuiet]using h⟩
 | i::is,listed,a,hcl,hB,hR,hI,h=>by
  simp only[takeB,Bool.and_eq_true]at hB;obtain⟨⟨⟨hw,hready⟩,hfree⟩,hB'⟩:=hB;obtain⟨o,ho⟩:=Option.isSome_iff_exists.1 (hI i (List.mem_cons_self ..));have e:pickOps ops (i::is)=o::pickOps ops is:=by simp[pickOps,ho]
  rw[e]at h;have hst:qOp P ops C i (wpQuiet P ops C (R (listAll (listed.setIfInBounds i true) is)) (pickOps ops is)) a:=by unfold qOp;simp only[ho];exact h
  obtain⟨v,hy,hK⟩:=yieldsIn_of_qOp ho hst;have hri:i∈Region.ready .any ops listed:=by simpa using hready
  exact js5 ho (Region.noSelect_spec hs) hw is.length listed a hcl (Region.free_spec ho hfree) hri hy
   (js6 hs is _ _ (hcl.set hri) hB' hR (λj hj=>hI j (List.mem_cons_of_mem _ hj)) hK)
theorem j40 {K K':Act->Prop}(h:∀a,K a->K' a):∀(l:List Oper)(a:Act),wpQuiet P ops C K l a->wpQuiet P ops C K' l a
 | [],_,hh=>h _ hh
 | o::l,a,hh=>by
  unfold wpQuiet at hh ⊢;split
  ·rename_i hw
   rw[if_pos hw]at hh;exact Oper.quiet_mono (λa=>j40 h l a) hh
  ·rename_i hw
   rw[if_neg hw]at hh;exact j40 h l _ hh
theorem ja9 {ol:Oper}(hol:ops[last]?=some ol)(hg:ol.guard=none):∀(fuel:Nat)(listed:Array Bool)(a:Act)(w:World),C w ->
  wpL P ops C (λlisted a=>Region.ready .any ops (listed.setIfInBounds last true)=[]/\∀w',C w'->ol.wp P a w' (λa'' w''=>Q .normal a'' w'') Q) last fuel listed a->wpAny P .any ops Q (fuel+1) listed a w
 | 0,listed,a,w,hw,h=>by
  refine⟨λh0=>(by rw[h.1]at h0;cases h0),λi hi=>?_⟩;rw[h.1,List.mem_singleton]at hi;subst hi;unfold wpOp;simp only[hol];rw[if_pos (by simp[Region.wanted,hg])];refine .inl (Oper.wp_mono (λa' w' h'=>?_) (h.2.2 w hw));exact⟨h.2.1,h'⟩
 | fuel+1,listed,a,w,hw,h=>by
  exact⟨λh0=>absurd h0 h.1,λi hi=>wpOp_of_qOp hw (λa' w' hw'=>ja9 hol hg fuel _ a' w' hw') (h.2 i hi)⟩
def lastB (ops:Array Oper)(last:Nat):Bool:=
 Region.noSelect ops&&(closedB ops (Array.replicate ops.size false)&&(takeB ops last (List.range last) (Array.replicate ops.size false)&&((List.range last).all λi=>(ops[i]?).isSome) &&
  (Region.ready .any ops (listAll (Array.replicate ops.size false) (List.range last))==[last]&&Region.ready .any ops ((listAll (Array.replicate ops.size false) (List.range last)).setIfInBounds last true)==[])))
theorem jtr {l:List Oper}{id:Nat}{a:Act}{w:World}{ol:Oper}(C:World->Prop)(last:Nat)(hm:P.follows .mixedOrders=true)(hB:lastB l.toArray last=true)(hl:l.length=last+1)(hol:l.toArray[last]?=some ol)(hg:ol.guard=none)(hC:C w.drew)
  (h:wpQuiet P l.toArray C (λa'=>∀w',C w'->ol.wp P a' w' (λa'' w''=>Q .normal a'' w'') Q) (pickOps l.toArray (List.range last)) a):(Code.region id l.toArray true).wp P Q a w:=by
 unfold lastB at hB;simp only[Bool.and_eq_true,beq_iff_eq]at hB;obtain⟨hs,hc,⟨ht,hi⟩,hr,hr2⟩:=hB;rw[List.all_eq_true]at hi;refine wp_region_any hm ?_;rw[show l.toArray.size=last+1 by simpa using hl]at *;refine ja9 hol hg last _ _ _ hC ?_;have h2:=js6 (P:=P) (C:=C) (R:=λlisted a=>Region.ready .any l.toArray (listed.setIfInBounds last true)=[]/\∀w',C w'->ol.wp P a w' (λa'' w''=>Q .normal a'' w'') Q) hs (List.range last) _ a (jgj hc) ht hr hi ?_
 ·simpa using h2
 ·refine j40 (λa' ha=>⟨hr2,ha⟩) _ _ h
end
theorem run_last_grow {P:Program}{Q:Exit->Act->World->Prop}{l:List Oper}{id:Nat}{a:Act}{w:World}{ol:Oper}(is:List Nat)(last:Nat)(his:is=List.range last)(hm:P.follows .mixedOrders=true)(hB:lastB l.toArray last=true)(hl:l.length=last+1)(hol:l.toArray[last]?=some ol)(hg:ol.guard=none)
  (h:wpQuiet P l.toArray (λw'=>∃x:Grown w,w'=grow w x) (λa'=>∀x:Grown w,ol.wp P a' (grow w x) (λa'' w''=>Q .normal a'' w'') Q) (pickOps l.toArray is) a):(Code.region id l.toArray true).wp P Q a w:=by
 subst his;refine jtr (λw'=>∃x:Grown w,w'=grow w x) last hm hB hl hol hg ⟨⟨w.drew,(Below.refl _ _).drew⟩,rfl⟩ (j40 (λa' ha=>?_) _ _ h);rintro _ ⟨x,rfl⟩;exact ha x
end Mix
open Lib (hid)
open Go.RowKit
def nodeT (n:Nd):List UInt8:=((((Lib.decDigits n.id.toNat++[32])++logT n.us)++[32])++Lib.decDigits n.done.toNat)++[10]
def headT (view:Int):List UInt8:=([118,105,101,119,32]++Lib.decDigits view.toNat)++[10]
def linesT (view:Int)(ns:List Nd):Nat->List UInt8
 | 0=>headT view
 | k+1=>linesT view ns k++nodeT (nd ns k)
noncomputable def chainText (view:Int)(ns:List Nd):List UInt8:=if chainOk view ns=true then linesT view ns ns.length else[]
theorem j62 {view:Int}(h:view<=999):(headT view).length<=2000:=by
 have:=j1f view.toNat;simp[headT];omega
theorem ja0 {n:Nd}(h:nodeOk n.id n.us n.done=true):(nodeT n).length<=2000:=by
 obtain⟨h1,h2,h3⟩:=j21 h;have l1:=j1f n.id.toNat;have l2:=jjn n.us h2;have l3:=j1f n.done.toNat;have:=(j2p h2).1;simp[nodeT];omega
theorem j3x {view:Int}{ns:List Nd}(h:chainOk view ns=true):∀k,k<=ns.length->(linesT view ns k).length<=2000+2000*k
 | 0,_=>by have:=j62 (j1c.1 h).1.2;simpa[linesT]using this
 | k+1,hk=>by
  have h1:=j3x h k (by omega);have h2:=ja0 ((j1c.1 h).2.2.1 k (by omega)).1;simp[linesT];omega
theorem j3k {P:Program}{x y z:List UInt8}(hz:x++y=z)(h:z.length<=1000000)(W:World):(Op.stringOp .add ⟨x.toArray⟩ ⟨y.toArray⟩).run P W=.ok (.string ⟨z.toArray⟩) W:=by
 have:x.length+y.length=z.length:=by rw[<- hz];simp
 exact hz▸j31 x y (by omega) W
theorem j79 (view:Int)(a:Option Addr)(cap:Nat)(ns:List Nd)(w:World)(hm:ns.length<=1099511627776)(hc:ns.length<=cap)(hs:Short ns 1099511627776)(hx:NodesAt w a ns) :
  Calls tnp 40 #[.agg #[.int .i64 view,.slice a ns.length cap]] w λe w'=>e=.returned (.string ⟨(chainText view ns).toArray⟩)/\Below w.heap.size w w':=by
 have s0:=(St.start w).alloc (.cells #[.int .i64 view,.slice a ns.length cap] 34);go_enter Twn.func40,Tryz.ntmps40
 go_wp2_with fail
 refine(jw view a cap ns _ hm hc hs (hx.below s0.below)).mono ?_;rintro e w1 ⟨rfl,hb⟩;have s1:=s0.call hb;clear s0 hb;obtain⟨c1,_⟩:=s1.cells;cases h:chainOk view ns with
 | false=>
  have FIN:Hid (chainText view ns=[]):=hid (by simp[chainText,h]);go_wp2_with fail
  exact bodyPost_ret (v:=.string ⟨#[]⟩) (by simp[results,Tryz.results40,go_sem]) rfl ⟨by rw[FIN.out],s1.below⟩
 | true=>
  have FIN:Hid (chainText view ns=linesT view ns ns.length):=hid (by simp[chainText,h]);have LL:=hid (j3x h);have HP:=hid (j1c.1 h);have hv1:=HP.out.1.1;have hv2:=HP.out.1.2;have hhl:=j62 hv2;have hn1:1<=ns.length:=HP.out.2.1.1;have hn5:ns.length<=5:=HP.out.2.1.2;obtain⟨v,rfl⟩:∃v:Nat,view=v:=⟨view.toNat,by omega⟩;have hv:v<4611686018427387904:=by omega
  obtain⟨t1,ht1⟩:∃t,[118,105,101,119,32]++Lib.decDigits v=t:=⟨_,rfl⟩;have ht2:t1++[10]=headT v:=by rw[<- ht1];simp[headT]
  have l1:t1.length<=(headT v).length:=by rw[<- ht2];simp
  obtain⟨H,hH⟩:∃t,headT v=t:=⟨_,rfl⟩;have hh0:linesT v ns 0=H:=by rw[<- hH];rfl
  rw[hH]at ht2 l1 hhl;have cat1:=j3k (P:=tnp) ht1 (by omega);have cat2:=j3k (P:=tnp) ht2 (by omega);have k0:=(c1 0).trans (show _=some (Value.int .i64 v)from rfl);have k1:=(c1 1).trans (show _=some (Value.slice a ns.length cap)from rfl);have HH0:=hid hh0;clear h c1 hh0 hH ht1 ht2 hv1 hv2 hhl l1;go_wp2_with fail
  refine(j2g v hv _).mono ?_;rintro e w2 ⟨rfl,hb2⟩;have s2:=s1.call hb2;clear hb2 k0 k1 s1;go_wp2_with fail
  clear cat1 cat2
  go_loopw [3,4] (λt i wr=>∃k:Nat,k<=ns.length/\i=.int .i64 k/\t=.string ⟨(linesT v ns k).toArray⟩/\St w wr [box w.heap.size #[.int .i64 v,.slice a ns.length cap] 34]) (λ_ i _=>ns.length-(intOf i).toNat)
  case atStart=>exact⟨0,Nat.zero_le _,rfl,by rw[HH0.out],s2⟩
  case round=>
   clear s2;obtain⟨k,hk,rfl,rfl,s3⟩:=hrel;have hjl:=LL.out k hk;obtain⟨x3,_⟩:=s3.cells;have k1:=(x3 1).trans (show _=some (Value.slice a ns.length cap)from rfl);by_cases hlt:k<ns.length
   ·obtain⟨b,off,rfl,c0,c1,c2⟩:=(hx.below s3.below).cells k hlt;have hjs:=LL.out (k+1) (by omega);have SK:=(HP.out.2.2.1 k hlt).1;have HU':=hid (λW (h:Below w.heap.size w W)=>((hx.2.below h).at hlt).1);have hnx:linesT v ns (k+1)=linesT v ns k++nodeT (nd ns k):=rfl;have i1:(0:Int)<=(k:Int):=by omega
    have i2:(k:Int)<(ns.length:Int):=by omega
    have i3:(k:Int)<=(cap:Int):=by omega
    rcases hN:nd ns k with⟨p,y,c,us,q⟩;have HU:Hid (∀W,Below w.heap.size w W->UpdsAt W y us):=hid (by have:=HU'.out;rw[hN]at this;exact this);clear HU';rw[hN]at c0 c1 c2 SK hnx;dsimp only at c0 c1 c2 SK;clear hN;obtain⟨p1,p2,p3⟩:=j21 SK;obtain⟨p,rfl⟩:∃n:Nat,p=n:=⟨p.toNat,by omega⟩;obtain⟨q,rfl⟩:∃n:Nat,q=n:=⟨q.toNat,by omega⟩;have hp:p<4611686018427387904:=by omega
    have hq:q<4611686018427387904:=by have:=(j2p p2).1;omega
    simp only[nodeT,Int.toNat_natCast]at hnx;obtain⟨x1,hx1⟩:∃x,linesT v ns k++Lib.decDigits p=x:=⟨_,rfl⟩;obtain⟨x2,hx2⟩:∃x,x1++[32]=x:=⟨_,rfl⟩;obtain⟨x3,hx3⟩:∃x,x2++logT us=x:=⟨_,rfl⟩;obtain⟨x4,hx4⟩:∃x,x3++[32]=x:=⟨_,rfl⟩;obtain⟨x5,hx5⟩:∃x,x4++Lib.decDigits q=x:=⟨_,rfl⟩;have hx6:x5++[10]=linesT v ns (k+1):=by rw[hnx,<- hx5,<- hx4,<- hx3,<- hx2,<- hx1];simp
    have e6:x5.length+1=(linesT v ns (k+1)).length:=by rw[<- hx6];simp
    have e5:x4.length<=x5.length:=by rw[<- hx5];simp
    have e4:x3.length<=x4.length:=by rw[<- hx4];simp
    have e3:x2.length<=x3.length:=by rw[<- hx3];simp
    have e2:x1.length<=x2.length:=by rw[<- hx2];simp
    have cat1:=j3k (P:=tnp) hx1 (by omega);have cat2:=j3k (P:=tnp) hx2 (by omega);have cat3:=j3k (P:=tnp) hx3 (by omega);have cat4:=j3k (P:=tnp) hx4 (by omega);have cat5:=j3k (P:=tnp) hx5 (by omega);have cat6:=j3k (P:=tnp) hx6 (by omega);have LG:=hid (λW (h:UpdsAt W y us)=>jh1 y c us W p2 h);have g0:=jf c0;have g1:=jf c1;have g2:=jf c2;have g3:=jf k1;have HG:=hid (λx:Grown wr=>s3.call (j1b x));have L4:=hid (λx:Grown wr=>LG.out (grow wr x) (HU.out _ (HG.out x).below));obtain⟨nx,hnn⟩:∃nx,linesT v ns (k+1)=nx:=⟨_,rfl⟩;rw[hnn]at cat6;have HNN:=hid hnn;clear hnn hnx hx1 hx2 hx3 hx4 hx5 hx6 e2 e3 e4 e5 e6 hjl hjs p1 p2 p3 SK;go_wp2_with fail
    refine jm (by kernel_rfl) (by kernel_rfl) ?_;repeat (go_big_quiet_step (((first|(go_at_call 60;exact Calls.grow_of (L4.out _))|(go_at_call 30;exact Calls.grow_of (j2g _ (by assumption) _))))))
    refine wpQuiet_nil ?_;rintro _ ⟨x,rfl⟩;go_wp2_with fail
    go_roundw
    case rel=>exact⟨k+1,hlt,by go_num,by rw[HNN.out],HG.out x⟩
    case measure=>simp[intOf];omega
   ·obtain rfl:k=ns.length:=by omega
    go_wp2_with fail
    exact bodyPost_ret (v:=.string ⟨(linesT v ns ns.length).toArray⟩) (by simp[results,Tryz.results40,go_sem]) rfl ⟨by rw[FIN.out],s3.below⟩
def empty5:List Int:=[-1,-1,-1,-1,-1]
def runTo (s0:List Int)(us:List Upd)(k:Nat):List Int:=(us.take k).foldl (λs u=>s.set u.1.toNat u.2) s0
theorem jef (s0:List Int)(us:List Upd)(k:Nat)(h:k<us.length):runTo s0 us (k+1)=(runTo s0 us k).set us[k].1.toNat us[k].2:=by
 unfold runTo;rw[jek us k h,List.foldl_append];rfl
theorem j3p (s0:List Int)(us:List Upd)(k:Nat):(runTo s0 us k).length=s0.length:=by
 unfold runTo;generalize us.take k=l;induction l generalizing s0 with
 | nil=>rfl
 | cons u r ih=>rw[List.foldl_cons,ih];simp
def stateAt (us:List Upd)(many:Int):List Int:=if logOk us=true/\0<=many/\many<=us.length then runTo empty5 us many.toNat else[]
theorem j7a {us:List Upd}{k:Nat}(h:logOk us=true)(hk:k<=us.length):stateAt us k=runTo empty5 us k:=by
 rw[stateAt,if_pos ⟨h,by omega,by omega⟩];rfl
theorem j9n {us:List Upd}{many:Int}(h:¬(logOk us=true/\0<=many/\many<=us.length)):stateAt us many=[]:=if_neg h
theorem je2 (u:Upd)(r:List Upd):∀k,1<=k->joinT (u::r) (k+1)=(updT u++[44])++joinT r k
 | 0,h=>by omega
 | 1,_=>by simp[joinT]
 | k+2,_=>by
  have ih:=je2 u r (k+1) (by omega);rw[joinT,ih];rw[joinT.eq_2 r (k+1)];simp
def nl (l:List UInt8):Nat:=(l.filter λc=>c==10).length
def cutL:List UInt8->List (List UInt8)
 | []=>[[]]
 | c::r=>if c=44 then[]::cutL r else(c::(cutL r).headD [])::(cutL r).tail
def joinC:List (List UInt8)->List UInt8
 | []=>[]
 | [p]=>p
 | p::q::r=>p++44::joinC (q::r)
theorem jn8 (p:List UInt8){ps:List (List UInt8)}(h:ps≠[]):joinC (p::ps)=p++44::joinC ps:=by
 cases ps with
 | nil=>exact absurd rfl h
 | cons q r=>rfl
def digsOf (acc:Nat):List UInt8->Option Nat
 | []=>some acc
 | c::r=>if 48<=c.toNat/\c.toNat<=57 then digsOf (10*acc+(c.toNat-48)) r else none
def orMinus:Option Nat->Int
 | some n=>n
 | none=>-1
def numL (l:List UInt8):Int:=if 1<=l.length/\l.length<=2 then orMinus (digsOf 0 l)else -1
theorem jbx:∀(u:Upd)(r:List Upd),joinT (u::r) (r.length+1)=joinC ((u::r).map updT)
 | u,[]=>by simp[joinT,joinC]
 | u,v::r=>by
  show joinT (u::v::r) (r.length+1+1)=joinC (updT u::(v::r).map updT);rw[je2 u (v::r) (r.length+1) (by omega),jbx v r,jn8 (updT u) (ps:=(v::r).map updT) (by simp)];simp
theorem jqk {us:List Upd}(h:us≠[]):logT us=joinT us us.length:=by
 unfold logT;rw[if_neg (by simpa using h)]
end Go.Proofs.T
