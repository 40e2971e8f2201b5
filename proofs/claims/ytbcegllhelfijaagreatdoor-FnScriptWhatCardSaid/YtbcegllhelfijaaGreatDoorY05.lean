/-
  A part of the proof.
-/
import Derived.Test.YtbcegllhelfijaaGreatDoorProg
import Derived.Test.YtbcegllhelfijaaGreatDoorY04
set_option linter.all false
set_option maxRecDepth 100000
set_option maxHeartbeats 8000000
namespace Go.Proofs
open Go
noncomputable def Twn.dead:Func:={ Tryz.f0 with name := "dead",body:=none }
def Twn.deadL:List Nat:=[0,1,132,134,145,146,147,148,149,150,153,156,157,158,159,161,162,168,169,170,171,172,183,184,185,186,187,188,189,190,191,192,193,194,195,196,197,198,199,200,201,203,204,205,206,207,208,209,210,211,212,213,214,215,216,217,218,219,220,221,222,223]
def Twn.deadB (i:Nat):Bool:=Twn.deadL.contains i
def Twn.passAsk:Code:=.region 0 #[
  { dst:=some 25,op:=.field 60 (.tmp 0) 1,type:=58,pos := "",after:=#[],guard:=none },
  { dst:=some 26,op:=.field 60 (.tmp 1) 1,type:=58,pos := "",after:=#[],guard:=none },
  { dst:=some 27,op:=.call { callee:=.builtin .len,args:=#[.tmp 25],argTypes:=#[58] },type:=3,pos := "",after:=#[],guard:=none },
  { dst:=some 28,op:=.call { callee:=.builtin .len,args:=#[.tmp 26],argTypes:=#[58] },type:=3,pos := "",after:=#[],guard:=none },
  { dst:=some 29,op:=.binOp .lss 3 (.tmp 28) (.tmp 27) 3,type:=4,pos := "",after:=#[],guard:=none },
  { dst:=some 30,op:=.binOp .lss 3 (.tmp 28) (.const (.int .i64 13)) 3,type:=4,pos := "",after:=#[],guard:=none },
  { dst:=some 31,op:=.binOp .eql 58 (.const (.slice none 0 0)) (.tmp 25) 58,type:=4,pos := "",after:=#[],guard:=none }] false
def Twn.passMake:Code:=.region 1 #[
  { dst:=some 2,op:=.box 60 (.tmp 0),type:=0,pos := "",after:=#[],guard:=none },
  { dst:=some 3,op:=.box 60 (.tmp 1),type:=0,pos := "",after:=#[],guard:=none },
  { dst:=some 9,op:=.alloc 145,type:=0,pos := "",after:=#[],guard:=none },
  { dst:=some 5,op:=.alloc 145,type:=0,pos := "",after:=#[],guard:=none },
  { dst:=some 12,op:=.makeSlice 58 (.tmp 28) (.tmp 28),type:=58,pos := "",after:=#[],guard:=none },
  { dst:=some 33,op:=.call { callee:=.builtin .copy,args:=#[.tmp 12,.tmp 26],argTypes:=#[58,58] },type:=3,pos := "",after:=#[],guard:=none },
  { dst:=some 6,op:=.alloc 58,type:=0,pos := "",after:=#[],guard:=none },
  { dst:=none,op:=.store 58 (.tmp 6) (.tmp 12),type:=0,pos := "",after:=#[],guard:=none },
  { dst:=some 18,op:=.indexAddr 58 (.tmp 25) (.tmp 28),type:=0,pos := "",after:=#[],guard:=none },
  { dst:=some 19,op:=.load 76 (.tmp 18),type:=76,pos := "",after:=#[],guard:=none },
  { dst:=some 7,op:=.alloc 76,type:=0,pos := "",after:=#[],guard:=none },
  { dst:=none,op:=.store 76 (.tmp 7) (.tmp 19),type:=0,pos := "",after:=#[],guard:=none },
  { dst:=some 8,op:=.alloc 145,type:=0,pos := "",after:=#[],guard:=none }] false
def Twn.passDo:Code:=.region 2 #[
  { dst:=some 34,op:=.alloc 76,type:=0,pos := "",after:=#[],guard:=none },
  { dst:=none,op:=.store 76 (.tmp 34) (.tmp 19),type:=0,pos := "",after:=#[],guard:=none },
  { dst:=some 35,op:=.load 58 (.tmp 6),type:=58,pos := "",after:=#[],guard:=none },
  { dst:=some 36,op:=.load 76 (.tmp 34),type:=76,pos := "",after:=#[],guard:=none },
  { dst:=some 37,op:=.buildSlice 58 1 #[(0,.tmp 36)],type:=58,pos := "",after:=#[],guard:=none },
  { dst:=some 38,op:=.call { callee:=.builtin .append,args:=#[.tmp 35,.tmp 37],argTypes:=#[58,58] },type:=58,pos := "",after:=#[],guard:=none },
  { dst:=none,op:=.store 58 (.tmp 6) (.tmp 38),type:=0,pos := "",after:=#[],guard:=none },
  { dst:=some 24,op:=.load 58 (.tmp 6),type:=58,pos := "",after:=#[],guard:=none },
  { dst:=some 4,op:=.assign (.tmp 24),type:=58,pos := "",after:=#[],guard:=none }] false
def Twn.passBody:Code:=
 .seq Twn.passAsk (.seq (.cond (.tmp 29) .skip (.refuse "")) (.seq (.cond (.tmp 30) .skip (.refuse "")) (.seq (.cond (.tmp 31) (.refuse "") .skip) (.seq Twn.passMake (.seq Twn.passDo .ret)))))
noncomputable def Twn.pass:Func:={ Tryz.f116 with body:=some Twn.passBody,ntmps:=40 }
noncomputable def Twn.one (i:Nat)(f:Func):Func:=if i=116 then Twn.pass else if Twn.deadB i then Twn.dead else f
noncomputable def Twn.funcs:Array Func:=Tryz.funcs.mapIdx Twn.one
noncomputable def tnp:Program:={ toTables:=Tryz.progTables,funcs:=Twn.funcs }
theorem Twn.tables:tnp.toTables=Tryz.prog.toTables:=by kernel_rfl
theorem Twn.funcs_eq:tnp.funcs=Tryz.prog.funcs.mapIdx Twn.one:=by kernel_rfl
theorem Twn.at (i:Nat):tnp.funcs[i]?=(Tryz.prog.funcs[i]?).map (Twn.one i):=Mn.jjp Twn.funcs_eq i
theorem Twn.look_gen {o:Option Func}{i:Nat}{f:Func}{F:Array Func}(h0:F[i]?=o.map (Twn.one i))(h:o=some f)(h1:(i==116)=false)(h2:Twn.deadB i=false):F[i]?=some f:=by
 rw[h0,h];simp only[Option.map_some,Twn.one,h2,if_neg (by simpa using h1),Bool.false_eq_true,if_false]
theorem Twn.look {i:Nat}{f:Func}(h:Tryz.prog.funcs[i]?=some f)(h1:(i==116)=false)(h2:Twn.deadB i=false):tnp.funcs[i]?=some f:=Twn.look_gen (Twn.at i) h h1 h2
theorem Twn.pass_gen {o:Option Func}{f:Func}{F:Array Func}(h0:F[116]?=o.map (Twn.one 116))(h:o=some f):F[116]?=some Twn.pass:=by
 rw[h0,h];simp only[Option.map_some,Twn.one,if_true]
theorem Twn.func116:tnp.funcs[116]?=some Twn.pass:=Twn.pass_gen (Twn.at 116) Tryz.func116
@[simp] theorem Twn.underlying_eq (t : TypeId) : tnp.underlying t = Tryz.prog.underlying t := Mn.j2o Twn.tables t
@[simp] theorem Twn.depth_eq : tnp.depth = Tryz.prog.depth := Mn.ju9 Twn.tables
@[simp] theorem Twn.stoodInHeld_eq (t : TypeId) : tnp.stoodInHeld t = Tryz.prog.stoodInHeld t := Mn.jdo Twn.tables t
@[simp] theorem Twn.eqGuardType_eq (d : Nat)(t : TypeId) : tnp.eqGuardType d t = Tryz.prog.eqGuardType d t := Mn.jdn Twn.tables d t
@[simp] theorem Twn.run_underlying (t : TypeId)(w : World) : (underlying t).run tnp w = (underlying t).run Tryz.prog w := Mn.j52 Twn.tables t w
@[simp] theorem Twn.run_sizeOf (t : TypeId)(w : World) : (sizeOf t).run tnp w = (sizeOf t).run Tryz.prog w := Mn.j8q Twn.tables t w
@[simp] theorem Twn.run_zeroValue (t : TypeId)(w : World) : (zeroValue t).run tnp w = (zeroValue t).run Tryz.prog w := Mn.jam Twn.tables t w
@[simp] theorem Twn.run_isAgg (t : TypeId)(w : World) : (isAgg t).run tnp w = (isAgg t).run Tryz.prog w := Mn.jig Twn.tables t w
@[simp] theorem Twn.func3 : tnp.funcs[3]? = some Tryz.f3 := Twn.look Tryz.func3 rfl rfl
@[simp] theorem Twn.func4 : tnp.funcs[4]? = some Tryz.f4 := Twn.look Tryz.func4 rfl rfl
@[simp] theorem Twn.func6 : tnp.funcs[6]? = some Tryz.f6 := Twn.look Tryz.func6 rfl rfl
@[simp] theorem Twn.func7 : tnp.funcs[7]? = some Tryz.f7 := Twn.look Tryz.func7 rfl rfl
@[simp] theorem Twn.func8 : tnp.funcs[8]? = some Tryz.f8 := Twn.look Tryz.func8 rfl rfl
@[simp] theorem Twn.func9 : tnp.funcs[9]? = some Tryz.f9 := Twn.look Tryz.func9 rfl rfl
@[simp] theorem Twn.func10 : tnp.funcs[10]? = some Tryz.f10 := Twn.look Tryz.func10 rfl rfl
@[simp] theorem Twn.func11 : tnp.funcs[11]? = some Tryz.f11 := Twn.look Tryz.func11 rfl rfl
@[simp] theorem Twn.func12 : tnp.funcs[12]? = some Tryz.f12 := Twn.look Tryz.func12 rfl rfl
@[simp] theorem Twn.func13 : tnp.funcs[13]? = some Tryz.f13 := Twn.look Tryz.func13 rfl rfl
@[simp] theorem Twn.func14 : tnp.funcs[14]? = some Tryz.f14 := Twn.look Tryz.func14 rfl rfl
@[simp] theorem Twn.func15 : tnp.funcs[15]? = some Tryz.f15 := Twn.look Tryz.func15 rfl rfl
@[simp] theorem Twn.func17 : tnp.funcs[17]? = some Tryz.f17 := Twn.look Tryz.func17 rfl rfl
@[simp] theorem Twn.func18 : tnp.funcs[18]? = some Tryz.f18 := Twn.look Tryz.func18 rfl rfl
@[simp] theorem Twn.func19 : tnp.funcs[19]? = some Tryz.f19 := Twn.look Tryz.func19 rfl rfl
@[simp] theorem Twn.func20 : tnp.funcs[20]? = some Tryz.f20 := Twn.look Tryz.func20 rfl rfl
@[simp] theorem Twn.func21 : tnp.funcs[21]? = some Tryz.f21 := Twn.look Tryz.func21 rfl rfl
@[simp] theorem Twn.call21 (args : Array Value)(w : World) : (callFunc 21 args).run tnp w = .ok (.enter 21 args) w := Mn.jc Twn.func21 (by kernel_rfl) rfl args w
@[simp] theorem Twn.func22 : tnp.funcs[22]? = some Tryz.f22 := Twn.look Tryz.func22 rfl rfl
@[simp] theorem Twn.call22 (args : Array Value)(w : World) : (callFunc 22 args).run tnp w = .ok (.enter 22 args) w := Mn.jc Twn.func22 (by kernel_rfl) rfl args w
@[simp] theorem Twn.func23 : tnp.funcs[23]? = some Tryz.f23 := Twn.look Tryz.func23 rfl rfl
@[simp] theorem Twn.call23 (args : Array Value)(w : World) : (callFunc 23 args).run tnp w = .ok (.enter 23 args) w := Mn.jc Twn.func23 (by kernel_rfl) rfl args w
@[simp] theorem Twn.func24 : tnp.funcs[24]? = some Tryz.f24 := Twn.look Tryz.func24 rfl rfl
@[simp] theorem Twn.call24 (args : Array Value)(w : World) : (callFunc 24 args).run tnp w = .ok (.enter 24 args) w := Mn.jc Twn.func24 (by kernel_rfl) rfl args w
@[simp] theorem Twn.func25 : tnp.funcs[25]? = some Tryz.f25 := Twn.look Tryz.func25 rfl rfl
@[simp] theorem Twn.call25 (args : Array Value)(w : World) : (callFunc 25 args).run tnp w = .ok (.enter 25 args) w := Mn.jc Twn.func25 (by kernel_rfl) rfl args w
@[simp] theorem Twn.func26 : tnp.funcs[26]? = some Tryz.f26 := Twn.look Tryz.func26 rfl rfl
@[simp] theorem Twn.call26 (args : Array Value)(w : World) : (callFunc 26 args).run tnp w = .ok (.enter 26 args) w := Mn.jc Twn.func26 (by kernel_rfl) rfl args w
@[simp] theorem Twn.func27 : tnp.funcs[27]? = some Tryz.f27 := Twn.look Tryz.func27 rfl rfl
@[simp] theorem Twn.call27 (args : Array Value)(w : World) : (callFunc 27 args).run tnp w = .ok (.enter 27 args) w := Mn.jc Twn.func27 (by kernel_rfl) rfl args w
@[simp] theorem Twn.func28 : tnp.funcs[28]? = some Tryz.f28 := Twn.look Tryz.func28 rfl rfl
@[simp] theorem Twn.call28 (args : Array Value)(w : World) : (callFunc 28 args).run tnp w = .ok (.enter 28 args) w := Mn.jc Twn.func28 (by kernel_rfl) rfl args w
@[simp] theorem Twn.func29 : tnp.funcs[29]? = some Tryz.f29 := Twn.look Tryz.func29 rfl rfl
@[simp] theorem Twn.call29 (args : Array Value)(w : World) : (callFunc 29 args).run tnp w = .ok (.enter 29 args) w := Mn.jc Twn.func29 (by kernel_rfl) rfl args w
@[simp] theorem Twn.func30 : tnp.funcs[30]? = some Tryz.f30 := Twn.look Tryz.func30 rfl rfl
@[simp] theorem Twn.call30 (args : Array Value)(w : World) : (callFunc 30 args).run tnp w = .ok (.enter 30 args) w := Mn.jc Twn.func30 (by kernel_rfl) rfl args w
@[simp] theorem Twn.func31 : tnp.funcs[31]? = some Tryz.f31 := Twn.look Tryz.func31 rfl rfl
@[simp] theorem Twn.func32 : tnp.funcs[32]? = some Tryz.f32 := Twn.look Tryz.func32 rfl rfl
@[simp] theorem Twn.call32 (args : Array Value)(w : World) : (callFunc 32 args).run tnp w = .ok (.enter 32 args) w := Mn.jc Twn.func32 (by kernel_rfl) rfl args w
@[simp] theorem Twn.func33 : tnp.funcs[33]? = some Tryz.f33 := Twn.look Tryz.func33 rfl rfl
@[simp] theorem Twn.func34 : tnp.funcs[34]? = some Tryz.f34 := Twn.look Tryz.func34 rfl rfl
@[simp] theorem Twn.call34 (args : Array Value)(w : World) : (callFunc 34 args).run tnp w = .ok (.enter 34 args) w := Mn.jc Twn.func34 (by kernel_rfl) rfl args w
@[simp] theorem Twn.func35 : tnp.funcs[35]? = some Tryz.f35 := Twn.look Tryz.func35 rfl rfl
@[simp] theorem Twn.call35 (args : Array Value)(w : World) : (callFunc 35 args).run tnp w = .ok (.enter 35 args) w := Mn.jc Twn.func35 (by kernel_rfl) rfl args w
@[simp] theorem Twn.func36 : tnp.funcs[36]? = some Tryz.f36 := Twn.look Tryz.func36 rfl rfl
@[simp] theorem Twn.call36 (args : Array Value)(w : World) : (callFunc 36 args).run tnp w = .ok (.enter 36 args) w := Mn.jc Twn.func36 (by kernel_rfl) rfl args w
@[simp] theorem Twn.func37 : tnp.funcs[37]? = some Tryz.f37 := Twn.look Tryz.func37 rfl rfl
@[simp] theorem Twn.call37 (args : Array Value)(w : World) : (callFunc 37 args).run tnp w = .ok (.enter 37 args) w := Mn.jc Twn.func37 (by kernel_rfl) rfl args w
@[simp] theorem Twn.func38 : tnp.funcs[38]? = some Tryz.f38 := Twn.look Tryz.func38 rfl rfl
@[simp] theorem Twn.call38 (args : Array Value)(w : World) : (callFunc 38 args).run tnp w = .ok (.enter 38 args) w := Mn.jc Twn.func38 (by kernel_rfl) rfl args w
@[simp] theorem Twn.func39 : tnp.funcs[39]? = some Tryz.f39 := Twn.look Tryz.func39 rfl rfl
@[simp] theorem Twn.call39 (args : Array Value)(w : World) : (callFunc 39 args).run tnp w = .ok (.enter 39 args) w := Mn.jc Twn.func39 (by kernel_rfl) rfl args w
@[simp] theorem Twn.func40 : tnp.funcs[40]? = some Tryz.f40 := Twn.look Tryz.func40 rfl rfl
@[simp] theorem Twn.call40 (args : Array Value)(w : World) : (callFunc 40 args).run tnp w = .ok (.enter 40 args) w := Mn.jc Twn.func40 (by kernel_rfl) rfl args w
@[simp] theorem Twn.func41 : tnp.funcs[41]? = some Tryz.f41 := Twn.look Tryz.func41 rfl rfl
@[simp] theorem Twn.call41 (args : Array Value)(w : World) : (callFunc 41 args).run tnp w = .ok (.enter 41 args) w := Mn.jc Twn.func41 (by kernel_rfl) rfl args w
@[simp] theorem Twn.func42 : tnp.funcs[42]? = some Tryz.f42 := Twn.look Tryz.func42 rfl rfl
@[simp] theorem Twn.call42 (args : Array Value)(w : World) : (callFunc 42 args).run tnp w = .ok (.enter 42 args) w := Mn.jc Twn.func42 (by kernel_rfl) rfl args w
@[simp] theorem Twn.func43 : tnp.funcs[43]? = some Tryz.f43 := Twn.look Tryz.func43 rfl rfl
@[simp] theorem Twn.call43 (args : Array Value)(w : World) : (callFunc 43 args).run tnp w = .ok (.enter 43 args) w := Mn.jc Twn.func43 (by kernel_rfl) rfl args w
@[simp] theorem Twn.func44 : tnp.funcs[44]? = some Tryz.f44 := Twn.look Tryz.func44 rfl rfl
@[simp] theorem Twn.call44 (args : Array Value)(w : World) : (callFunc 44 args).run tnp w = .ok (.enter 44 args) w := Mn.jc Twn.func44 (by kernel_rfl) rfl args w
@[simp] theorem Twn.func45 : tnp.funcs[45]? = some Tryz.f45 := Twn.look Tryz.func45 rfl rfl
@[simp] theorem Twn.call45 (args : Array Value)(w : World) : (callFunc 45 args).run tnp w = .ok (.enter 45 args) w := Mn.jc Twn.func45 (by kernel_rfl) rfl args w
@[simp] theorem Twn.func46 : tnp.funcs[46]? = some Tryz.f46 := Twn.look Tryz.func46 rfl rfl
@[simp] theorem Twn.call46 (args : Array Value)(w : World) : (callFunc 46 args).run tnp w = .ok (.enter 46 args) w := Mn.jc Twn.func46 (by kernel_rfl) rfl args w
@[simp] theorem Twn.func47 : tnp.funcs[47]? = some Tryz.f47 := Twn.look Tryz.func47 rfl rfl
@[simp] theorem Twn.call47 (args : Array Value)(w : World) : (callFunc 47 args).run tnp w = .ok (.enter 47 args) w := Mn.jc Twn.func47 (by kernel_rfl) rfl args w
@[simp] theorem Twn.func48 : tnp.funcs[48]? = some Tryz.f48 := Twn.look Tryz.func48 rfl rfl
@[simp] theorem Twn.call48 (args : Array Value)(w : World) : (callFunc 48 args).run tnp w = .ok (.enter 48 args) w := Mn.jc Twn.func48 (by kernel_rfl) rfl args w
@[simp] theorem Twn.func49 : tnp.funcs[49]? = some Tryz.f49 := Twn.look Tryz.func49 rfl rfl
@[simp] theorem Twn.call49 (args : Array Value)(w : World) : (callFunc 49 args).run tnp w = .ok (.enter 49 args) w := Mn.jc Twn.func49 (by kernel_rfl) rfl args w
@[simp] theorem Twn.func50 : tnp.funcs[50]? = some Tryz.f50 := Twn.look Tryz.func50 rfl rfl
@[simp] theorem Twn.call50 (args : Array Value)(w : World) : (callFunc 50 args).run tnp w = .ok (.enter 50 args) w := Mn.jc Twn.func50 (by kernel_rfl) rfl args w
@[simp] theorem Twn.func51 : tnp.funcs[51]? = some Tryz.f51 := Twn.look Tryz.func51 rfl rfl
@[simp] theorem Twn.func52 : tnp.funcs[52]? = some Tryz.f52 := Twn.look Tryz.func52 rfl rfl
@[simp] theorem Twn.func53 : tnp.funcs[53]? = some Tryz.f53 := Twn.look Tryz.func53 rfl rfl
@[simp] theorem Twn.func54 : tnp.funcs[54]? = some Tryz.f54 := Twn.look Tryz.func54 rfl rfl
@[simp] theorem Twn.func55 : tnp.funcs[55]? = some Tryz.f55 := Twn.look Tryz.func55 rfl rfl
@[simp] theorem Twn.call55 (args : Array Value)(w : World) : (callFunc 55 args).run tnp w = .ok (.enter 55 args) w := Mn.jc Twn.func55 (by kernel_rfl) rfl args w
@[simp] theorem Twn.func56 : tnp.funcs[56]? = some Tryz.f56 := Twn.look Tryz.func56 rfl rfl
@[simp] theorem Twn.call56 (args : Array Value)(w : World) : (callFunc 56 args).run tnp w = .ok (.enter 56 args) w := Mn.jc Twn.func56 (by kernel_rfl) rfl args w
@[simp] theorem Twn.func57 : tnp.funcs[57]? = some Tryz.f57 := Twn.look Tryz.func57 rfl rfl
@[simp] theorem Twn.call57 (args : Array Value)(w : World) : (callFunc 57 args).run tnp w = .ok (.enter 57 args) w := Mn.jc Twn.func57 (by kernel_rfl) rfl args w
@[simp] theorem Twn.func58 : tnp.funcs[58]? = some Tryz.f58 := Twn.look Tryz.func58 rfl rfl
@[simp] theorem Twn.call58 (args : Array Value)(w : World) : (callFunc 58 args).run tnp w = .ok (.enter 58 args) w := Mn.jc Twn.func58 (by kernel_rfl) rfl args w
@[simp] theorem Twn.func59 : tnp.funcs[59]? = some Tryz.f59 := Twn.look Tryz.func59 rfl rfl
@[simp] theorem Twn.call59 (args : Array Value)(w : World) : (callFunc 59 args).run tnp w = .ok (.enter 59 args) w := Mn.jc Twn.func59 (by kernel_rfl) rfl args w
@[simp] theorem Twn.func60 : tnp.funcs[60]? = some Tryz.f60 := Twn.look Tryz.func60 rfl rfl
@[simp] theorem Twn.call60 (args : Array Value)(w : World) : (callFunc 60 args).run tnp w = .ok (.enter 60 args) w := Mn.jc Twn.func60 (by kernel_rfl) rfl args w
@[simp] theorem Twn.func61 : tnp.funcs[61]? = some Tryz.f61 := Twn.look Tryz.func61 rfl rfl
@[simp] theorem Twn.call61 (args : Array Value)(w : World) : (callFunc 61 args).run tnp w = .ok (.enter 61 args) w := Mn.jc Twn.func61 (by kernel_rfl) rfl args w
@[simp] theorem Twn.func62 : tnp.funcs[62]? = some Tryz.f62 := Twn.look Tryz.func62 rfl rfl
@[simp] theorem Twn.call62 (args : Array Value)(w : World) : (callFunc 62 args).run tnp w = .ok (.enter 62 args) w := Mn.jc Twn.func62 (by kernel_rfl) rfl args w
@[simp] theorem Twn.func63 : tnp.funcs[63]? = some Tryz.f63 := Twn.look Tryz.func63 rfl rfl
@[simp] theorem Twn.call63 (args : Array Value)(w : World) : (callFunc 63 args).run tnp w = .ok (.enter 63 args) w := Mn.jc Twn.func63 (by kernel_rfl) rfl args w
@[simp] theorem Twn.func64 : tnp.funcs[64]? = some Tryz.f64 := Twn.look Tryz.func64 rfl rfl
@[simp] theorem Twn.call64 (args : Array Value)(w : World) : (callFunc 64 args).run tnp w = .ok (.enter 64 args) w := Mn.jc Twn.func64 (by kernel_rfl) rfl args w
@[simp] theorem Twn.func65 : tnp.funcs[65]? = some Tryz.f65 := Twn.look Tryz.func65 rfl rfl
@[simp] theorem Twn.call65 (args : Array Value)(w : World) : (callFunc 65 args).run tnp w = .ok (.enter 65 args) w := Mn.jc Twn.func65 (by kernel_rfl) rfl args w
@[simp] theorem Twn.func66 : tnp.funcs[66]? = some Tryz.f66 := Twn.look Tryz.func66 rfl rfl
@[simp] theorem Twn.call66 (args : Array Value)(w : World) : (callFunc 66 args).run tnp w = .ok (.enter 66 args) w := Mn.jc Twn.func66 (by kernel_rfl) rfl args w
@[simp] theorem Twn.func67 : tnp.funcs[67]? = some Tryz.f67 := Twn.look Tryz.func67 rfl rfl
@[simp] theorem Twn.call67 (args : Array Value)(w : World) : (callFunc 67 args).run tnp w = .ok (.enter 67 args) w := Mn.jc Twn.func67 (by kernel_rfl) rfl args w
@[simp] theorem Twn.func68 : tnp.funcs[68]? = some Tryz.f68 := Twn.look Tryz.func68 rfl rfl
@[simp] theorem Twn.call68 (args : Array Value)(w : World) : (callFunc 68 args).run tnp w = .ok (.enter 68 args) w := Mn.jc Twn.func68 (by kernel_rfl) rfl args w
@[simp] theorem Twn.func69 : tnp.funcs[69]? = some Tryz.f69 := Twn.look Tryz.func69 rfl rfl
@[simp] theorem Twn.call69 (args : Array Value)(w : World) : (callFunc 69 args).run tnp w = .ok (.enter 69 args) w := Mn.jc Twn.func69 (by kernel_rfl) rfl args w
@[simp] theorem Twn.func70 : tnp.funcs[70]? = some Tryz.f70 := Twn.look Tryz.func70 rfl rfl
@[simp] theorem Twn.call70 (args : Array Value)(w : World) : (callFunc 70 args).run tnp w = .ok (.enter 70 args) w := Mn.jc Twn.func70 (by kernel_rfl) rfl args w
@[simp] theorem Twn.func71 : tnp.funcs[71]? = some Tryz.f71 := Twn.look Tryz.func71 rfl rfl
@[simp] theorem Twn.call71 (args : Array Value)(w : World) : (callFunc 71 args).run tnp w = .ok (.enter 71 args) w := Mn.jc Twn.func71 (by kernel_rfl) rfl args w
@[simp] theorem Twn.func72 : tnp.funcs[72]? = some Tryz.f72 := Twn.look Tryz.func72 rfl rfl
@[simp] theorem Twn.func73 : tnp.funcs[73]? = some Tryz.f73 := Twn.look Tryz.func73 rfl rfl
@[simp] theorem Twn.func74 : tnp.funcs[74]? = some Tryz.f74 := Twn.look Tryz.func74 rfl rfl
@[simp] theorem Twn.func75 : tnp.funcs[75]? = some Tryz.f75 := Twn.look Tryz.func75 rfl rfl
@[simp] theorem Twn.func76 : tnp.funcs[76]? = some Tryz.f76 := Twn.look Tryz.func76 rfl rfl
@[simp] theorem Twn.func77 : tnp.funcs[77]? = some Tryz.f77 := Twn.look Tryz.func77 rfl rfl
@[simp] theorem Twn.func78 : tnp.funcs[78]? = some Tryz.f78 := Twn.look Tryz.func78 rfl rfl
@[simp] theorem Twn.func79 : tnp.funcs[79]? = some Tryz.f79 := Twn.look Tryz.func79 rfl rfl
@[simp] theorem Twn.func80 : tnp.funcs[80]? = some Tryz.f80 := Twn.look Tryz.func80 rfl rfl
@[simp] theorem Twn.func81 : tnp.funcs[81]? = some Tryz.f81 := Twn.look Tryz.func81 rfl rfl
@[simp] theorem Twn.func82 : tnp.funcs[82]? = some Tryz.f82 := Twn.look Tryz.func82 rfl rfl
@[simp] theorem Twn.func83 : tnp.funcs[83]? = some Tryz.f83 := Twn.look Tryz.func83 rfl rfl
@[simp] theorem Twn.func84 : tnp.funcs[84]? = some Tryz.f84 := Twn.look Tryz.func84 rfl rfl
@[simp] theorem Twn.call84 (args : Array Value)(w : World) : (callFunc 84 args).run tnp w = .ok (.enter 84 args) w := Mn.jc Twn.func84 (by kernel_rfl) rfl args w
@[simp] theorem Twn.func85 : tnp.funcs[85]? = some Tryz.f85 := Twn.look Tryz.func85 rfl rfl
@[simp] theorem Twn.call85 (args : Array Value)(w : World) : (callFunc 85 args).run tnp w = .ok (.enter 85 args) w := Mn.jc Twn.func85 (by kernel_rfl) rfl args w
@[simp] theorem Twn.func86 : tnp.funcs[86]? = some Tryz.f86 := Twn.look Tryz.func86 rfl rfl
@[simp] theorem Twn.call86 (args : Array Value)(w : World) : (callFunc 86 args).run tnp w = .ok (.enter 86 args) w := Mn.jc Twn.func86 (by kernel_rfl) rfl args w
@[simp] theorem Twn.func87 : tnp.funcs[87]? = some Tryz.f87 := Twn.look Tryz.func87 rfl rfl
@[simp] theorem Twn.call87 (args : Array Value)(w : World) : (callFunc 87 args).run tnp w = .ok (.enter 87 args) w := Mn.jc Twn.func87 (by kernel_rfl) rfl args w
@[simp] theorem Twn.func88 : tnp.funcs[88]? = some Tryz.f88 := Twn.look Tryz.func88 rfl rfl
@[simp] theorem Twn.call88 (args : Array Value)(w : World) : (callFunc 88 args).run tnp w = .ok (.enter 88 args) w := Mn.jc Twn.func88 (by kernel_rfl) rfl args w
@[simp] theorem Twn.func89 : tnp.funcs[89]? = some Tryz.f89 := Twn.look Tryz.func89 rfl rfl
@[simp] theorem Twn.call89 (args : Array Value)(w : World) : (callFunc 89 args).run tnp w = .ok (.enter 89 args) w := Mn.jc Twn.func89 (by kernel_rfl) rfl args w
@[simp] theorem Twn.func90 : tnp.funcs[90]? = some Tryz.f90 := Twn.look Tryz.func90 rfl rfl
@[simp] theorem Twn.call90 (args : Array Value)(w : World) : (callFunc 90 args).run tnp w = .ok (.enter 90 args) w := Mn.jc Twn.func90 (by kernel_rfl) rfl args w
@[simp] theorem Twn.func91 : tnp.funcs[91]? = some Tryz.f91 := Twn.look Tryz.func91 rfl rfl
@[simp] theorem Twn.call91 (args : Array Value)(w : World) : (callFunc 91 args).run tnp w = .ok (.enter 91 args) w := Mn.jc Twn.func91 (by kernel_rfl) rfl args w
@[simp] theorem Twn.func92 : tnp.funcs[92]? = some Tryz.f92 := Twn.look Tryz.func92 rfl rfl
@[simp] theorem Twn.func93 : tnp.funcs[93]? = some Tryz.f93 := Twn.look Tryz.func93 rfl rfl
@[simp] theorem Twn.func94 : tnp.funcs[94]? = some Tryz.f94 := Twn.look Tryz.func94 rfl rfl
@[simp] theorem Twn.func95 : tnp.funcs[95]? = some Tryz.f95 := Twn.look Tryz.func95 rfl rfl
@[simp] theorem Twn.func96 : tnp.funcs[96]? = some Tryz.f96 := Twn.look Tryz.func96 rfl rfl
@[simp] theorem Twn.func97 : tnp.funcs[97]? = some Tryz.f97 := Twn.look Tryz.func97 rfl rfl
@[simp] theorem Twn.call97 (args : Array Value)(w : World) : (callFunc 97 args).run tnp w = .ok (.enter 97 args) w := Mn.jc Twn.func97 (by kernel_rfl) rfl args w
@[simp] theorem Twn.func98 : tnp.funcs[98]? = some Tryz.f98 := Twn.look Tryz.func98 rfl rfl
@[simp] theorem Twn.call98 (args : Array Value)(w : World) : (callFunc 98 args).run tnp w = .ok (.enter 98 args) w := Mn.jc Twn.func98 (by kernel_rfl) rfl args w
@[simp] theorem Twn.func99 : tnp.funcs[99]? = some Tryz.f99 := Twn.look Tryz.func99 rfl rfl
@[simp] theorem Twn.call99 (args : Array Value)(w : World) : (callFunc 99 args).run tnp w = .ok (.enter 99 args) w := Mn.jc Twn.func99 (by kernel_rfl) rfl args w
@[simp] theorem Twn.func100 : tnp.funcs[100]? = some Tryz.f100 := Twn.look Tryz.func100 rfl rfl
@[simp] theorem Twn.call100 (args : Array Value)(w : World) : (callFunc 100 args).run tnp w = .ok (.enter 100 args) w := Mn.jc Twn.func100 (by kernel_rfl) rfl args w
@[simp] theorem Twn.func101 : tnp.funcs[101]? = some Tryz.f101 := Twn.look Tryz.func101 rfl rfl
@[simp] theorem Twn.call101 (args : Array Value)(w : World) : (callFunc 101 args).run tnp w = .ok (.enter 101 args) w := Mn.jc Twn.func101 (by kernel_rfl) rfl args w
@[simp] theorem Twn.func102 : tnp.funcs[102]? = some Tryz.f102 := Twn.look Tryz.func102 rfl rfl
@[simp] theorem Twn.call102 (args : Array Value)(w : World) : (callFunc 102 args).run tnp w = .ok (.enter 102 args) w := Mn.jc Twn.func102 (by kernel_rfl) rfl args w
@[simp] theorem Twn.func103 : tnp.funcs[103]? = some Tryz.f103 := Twn.look Tryz.func103 rfl rfl
@[simp] theorem Twn.call103 (args : Array Value)(w : World) : (callFunc 103 args).run tnp w = .ok (.enter 103 args) w := Mn.jc Twn.func103 (by kernel_rfl) rfl args w
@[simp] theorem Twn.func104 : tnp.funcs[104]? = some Tryz.f104 := Twn.look Tryz.func104 rfl rfl
@[simp] theorem Twn.call104 (args : Array Value)(w : World) : (callFunc 104 args).run tnp w = .ok (.enter 104 args) w := Mn.jc Twn.func104 (by kernel_rfl) rfl args w
@[simp] theorem Twn.func105 : tnp.funcs[105]? = some Tryz.f105 := Twn.look Tryz.func105 rfl rfl
@[simp] theorem Twn.call105 (args : Array Value)(w : World) : (callFunc 105 args).run tnp w = .ok (.enter 105 args) w := Mn.jc Twn.func105 (by kernel_rfl) rfl args w
@[simp] theorem Twn.func106 : tnp.funcs[106]? = some Tryz.f106 := Twn.look Tryz.func106 rfl rfl
@[simp] theorem Twn.call106 (args : Array Value)(w : World) : (callFunc 106 args).run tnp w = .ok (.enter 106 args) w := Mn.jc Twn.func106 (by kernel_rfl) rfl args w
@[simp] theorem Twn.func107 : tnp.funcs[107]? = some Tryz.f107 := Twn.look Tryz.func107 rfl rfl
@[simp] theorem Twn.call107 (args : Array Value)(w : World) : (callFunc 107 args).run tnp w = .ok (.enter 107 args) w := Mn.jc Twn.func107 (by kernel_rfl) rfl args w
@[simp] theorem Twn.func108 : tnp.funcs[108]? = some Tryz.f108 := Twn.look Tryz.func108 rfl rfl
@[simp] theorem Twn.call108 (args : Array Value)(w : World) : (callFunc 108 args).run tnp w = .ok (.enter 108 args) w := Mn.jc Twn.func108 (by kernel_rfl) rfl args w
@[simp] theorem Twn.func109 : tnp.funcs[109]? = some Tryz.f109 := Twn.look Tryz.func109 rfl rfl
@[simp] theorem Twn.call109 (args : Array Value)(w : World) : (callFunc 109 args).run tnp w = .ok (.enter 109 args) w := Mn.jc Twn.func109 (by kernel_rfl) rfl args w
@[simp] theorem Twn.func110 : tnp.funcs[110]? = some Tryz.f110 := Twn.look Tryz.func110 rfl rfl
@[simp] theorem Twn.call110 (args : Array Value)(w : World) : (callFunc 110 args).run tnp w = .ok (.enter 110 args) w := Mn.jc Twn.func110 (by kernel_rfl) rfl args w
@[simp] theorem Twn.func111 : tnp.funcs[111]? = some Tryz.f111 := Twn.look Tryz.func111 rfl rfl
@[simp] theorem Twn.func112 : tnp.funcs[112]? = some Tryz.f112 := Twn.look Tryz.func112 rfl rfl
@[simp] theorem Twn.func113 : tnp.funcs[113]? = some Tryz.f113 := Twn.look Tryz.func113 rfl rfl
@[simp] theorem Twn.call113 (args : Array Value)(w : World) : (callFunc 113 args).run tnp w = .ok (.enter 113 args) w := Mn.jc Twn.func113 (by kernel_rfl) rfl args w
@[simp] theorem Twn.func114 : tnp.funcs[114]? = some Tryz.f114 := Twn.look Tryz.func114 rfl rfl
@[simp] theorem Twn.call114 (args : Array Value)(w : World) : (callFunc 114 args).run tnp w = .ok (.enter 114 args) w := Mn.jc Twn.func114 (by kernel_rfl) rfl args w
@[simp] theorem Twn.func115 : tnp.funcs[115]? = some Tryz.f115 := Twn.look Tryz.func115 rfl rfl
@[simp] theorem Twn.call115 (args : Array Value)(w : World) : (callFunc 115 args).run tnp w = .ok (.enter 115 args) w := Mn.jc Twn.func115 (by kernel_rfl) rfl args w
@[simp] theorem Twn.func117 : tnp.funcs[117]? = some Tryz.f117 := Twn.look Tryz.func117 rfl rfl
@[simp] theorem Twn.call117 (args : Array Value)(w : World) : (callFunc 117 args).run tnp w = .ok (.enter 117 args) w := Mn.jc Twn.func117 (by kernel_rfl) rfl args w
@[simp] theorem Twn.func118 : tnp.funcs[118]? = some Tryz.f118 := Twn.look Tryz.func118 rfl rfl
@[simp] theorem Twn.call118 (args : Array Value)(w : World) : (callFunc 118 args).run tnp w = .ok (.enter 118 args) w := Mn.jc Twn.func118 (by kernel_rfl) rfl args w
@[simp] theorem Twn.func119 : tnp.funcs[119]? = some Tryz.f119 := Twn.look Tryz.func119 rfl rfl
@[simp] theorem Twn.call119 (args : Array Value)(w : World) : (callFunc 119 args).run tnp w = .ok (.enter 119 args) w := Mn.jc Twn.func119 (by kernel_rfl) rfl args w
@[simp] theorem Twn.func120 : tnp.funcs[120]? = some Tryz.f120 := Twn.look Tryz.func120 rfl rfl
@[simp] theorem Twn.call120 (args : Array Value)(w : World) : (callFunc 120 args).run tnp w = .ok (.enter 120 args) w := Mn.jc Twn.func120 (by kernel_rfl) rfl args w
@[simp] theorem Twn.func121 : tnp.funcs[121]? = some Tryz.f121 := Twn.look Tryz.func121 rfl rfl
@[simp] theorem Twn.call121 (args : Array Value)(w : World) : (callFunc 121 args).run tnp w = .ok (.enter 121 args) w := Mn.jc Twn.func121 (by kernel_rfl) rfl args w
@[simp] theorem Twn.func122 : tnp.funcs[122]? = some Tryz.f122 := Twn.look Tryz.func122 rfl rfl
@[simp] theorem Twn.call122 (args : Array Value)(w : World) : (callFunc 122 args).run tnp w = .ok (.enter 122 args) w := Mn.jc Twn.func122 (by kernel_rfl) rfl args w
@[simp] theorem Twn.func123 : tnp.funcs[123]? = some Tryz.f123 := Twn.look Tryz.func123 rfl rfl
@[simp] theorem Twn.call123 (args : Array Value)(w : World) : (callFunc 123 args).run tnp w = .ok (.enter 123 args) w := Mn.jc Twn.func123 (by kernel_rfl) rfl args w
@[simp] theorem Twn.func124 : tnp.funcs[124]? = some Tryz.f124 := Twn.look Tryz.func124 rfl rfl
@[simp] theorem Twn.func125 : tnp.funcs[125]? = some Tryz.f125 := Twn.look Tryz.func125 rfl rfl
@[simp] theorem Twn.call125 (args : Array Value)(w : World) : (callFunc 125 args).run tnp w = .ok (.enter 125 args) w := Mn.jc Twn.func125 (by kernel_rfl) rfl args w
@[simp] theorem Twn.func126 : tnp.funcs[126]? = some Tryz.f126 := Twn.look Tryz.func126 rfl rfl
@[simp] theorem Twn.call126 (args : Array Value)(w : World) : (callFunc 126 args).run tnp w = .ok (.enter 126 args) w := Mn.jc Twn.func126 (by kernel_rfl) rfl args w
@[simp] theorem Twn.func127 : tnp.funcs[127]? = some Tryz.f127 := Twn.look Tryz.func127 rfl rfl
@[simp] theorem Twn.call127 (args : Array Value)(w : World) : (callFunc 127 args).run tnp w = .ok (.enter 127 args) w := Mn.jc Twn.func127 (by kernel_rfl) rfl args w
@[simp] theorem Twn.func128 : tnp.funcs[128]? = some Tryz.f128 := Twn.look Tryz.func128 rfl rfl
@[simp] theorem Twn.call128 (args : Array Value)(w : World) : (callFunc 128 args).run tnp w = .ok (.enter 128 args) w := Mn.jc Twn.func128 (by kernel_rfl) rfl args w
@[simp] theorem Twn.func129 : tnp.funcs[129]? = some Tryz.f129 := Twn.look Tryz.func129 rfl rfl
@[simp] theorem Twn.call129 (args : Array Value)(w : World) : (callFunc 129 args).run tnp w = .ok (.enter 129 args) w := Mn.jc Twn.func129 (by kernel_rfl) rfl args w
@[simp] theorem Twn.func130 : tnp.funcs[130]? = some Tryz.f130 := Twn.look Tryz.func130 rfl rfl
@[simp] theorem Twn.call130 (args : Array Value)(w : World) : (callFunc 130 args).run tnp w = .ok (.enter 130 args) w := Mn.jc Twn.func130 (by kernel_rfl) rfl args w
@[simp] theorem Twn.func136 : tnp.funcs[136]? = some Tryz.f136 := Twn.look Tryz.func136 rfl rfl
@[simp] theorem Twn.call136 (args : Array Value)(w : World) : (callFunc 136 args).run tnp w = .ok (.enter 136 args) w := Mn.jc Twn.func136 (by kernel_rfl) rfl args w
@[simp] theorem Twn.func137 : tnp.funcs[137]? = some Tryz.f137 := Twn.look Tryz.func137 rfl rfl
@[simp] theorem Twn.func138 : tnp.funcs[138]? = some Tryz.f138 := Twn.look Tryz.func138 rfl rfl
@[simp] theorem Twn.call138 (args : Array Value)(w : World) : (callFunc 138 args).run tnp w = .ok (.enter 138 args) w := Mn.jc Twn.func138 (by kernel_rfl) rfl args w
@[simp] theorem Twn.func139 : tnp.funcs[139]? = some Tryz.f139 := Twn.look Tryz.func139 rfl rfl
@[simp] theorem Twn.call139 (args : Array Value)(w : World) : (callFunc 139 args).run tnp w = .ok (.enter 139 args) w := Mn.jc Twn.func139 (by kernel_rfl) rfl args w
@[simp] theorem Twn.func140 : tnp.funcs[140]? = some Tryz.f140 := Twn.look Tryz.func140 rfl rfl
@[simp] theorem Twn.call140 (args : Array Value)(w : World) : (callFunc 140 args).run tnp w = .ok (.enter 140 args) w := Mn.jc Twn.func140 (by kernel_rfl) rfl args w
@[simp] theorem Twn.func141 : tnp.funcs[141]? = some Tryz.f141 := Twn.look Tryz.func141 rfl rfl
@[simp] theorem Twn.call141 (args : Array Value)(w : World) : (callFunc 141 args).run tnp w = .ok (.enter 141 args) w := Mn.jc Twn.func141 (by kernel_rfl) rfl args w
@[simp] theorem Twn.func142 : tnp.funcs[142]? = some Tryz.f142 := Twn.look Tryz.func142 rfl rfl
@[simp] theorem Twn.func143 : tnp.funcs[143]? = some Tryz.f143 := Twn.look Tryz.func143 rfl rfl
@[simp] theorem Twn.call143 (args : Array Value)(w : World) : (callFunc 143 args).run tnp w = .ok (.enter 143 args) w := Mn.jc Twn.func143 (by kernel_rfl) rfl args w
@[simp] theorem Twn.func144 : tnp.funcs[144]? = some Tryz.f144 := Twn.look Tryz.func144 rfl rfl
@[simp] theorem Twn.call144 (args : Array Value)(w : World) : (callFunc 144 args).run tnp w = .ok (.enter 144 args) w := Mn.jc Twn.func144 (by kernel_rfl) rfl args w
@[simp] theorem Twn.func163 : tnp.funcs[163]? = some Tryz.f163 := Twn.look Tryz.func163 rfl rfl
@[simp] theorem Twn.func164 : tnp.funcs[164]? = some Tryz.f164 := Twn.look Tryz.func164 rfl rfl
@[simp] theorem Twn.func165 : tnp.funcs[165]? = some Tryz.f165 := Twn.look Tryz.func165 rfl rfl
@[simp] theorem Twn.func166 : tnp.funcs[166]? = some Tryz.f166 := Twn.look Tryz.func166 rfl rfl
@[simp] theorem Twn.func167 : tnp.funcs[167]? = some Tryz.f167 := Twn.look Tryz.func167 rfl rfl
@[simp] theorem Twn.call167 (args : Array Value)(w : World) : (callFunc 167 args).run tnp w = .ok (.enter 167 args) w := Mn.jc Twn.func167 (by kernel_rfl) rfl args w
@[simp] theorem Twn.func173 : tnp.funcs[173]? = some Tryz.f173 := Twn.look Tryz.func173 rfl rfl
@[simp] theorem Twn.func174 : tnp.funcs[174]? = some Tryz.f174 := Twn.look Tryz.func174 rfl rfl
@[simp] theorem Twn.func175 : tnp.funcs[175]? = some Tryz.f175 := Twn.look Tryz.func175 rfl rfl
@[simp] theorem Twn.func176 : tnp.funcs[176]? = some Tryz.f176 := Twn.look Tryz.func176 rfl rfl
@[simp] theorem Twn.func177 : tnp.funcs[177]? = some Tryz.f177 := Twn.look Tryz.func177 rfl rfl
@[simp] theorem Twn.func178 : tnp.funcs[178]? = some Tryz.f178 := Twn.look Tryz.func178 rfl rfl
@[simp] theorem Twn.call178 (args : Array Value)(w : World) : (callFunc 178 args).run tnp w = .ok (.enter 178 args) w := Mn.jc Twn.func178 (by kernel_rfl) rfl args w
@[simp] theorem Twn.func179 : tnp.funcs[179]? = some Tryz.f179 := Twn.look Tryz.func179 rfl rfl
@[simp] theorem Twn.call179 (args : Array Value)(w : World) : (callFunc 179 args).run tnp w = .ok (.enter 179 args) w := Mn.jc Twn.func179 (by kernel_rfl) rfl args w
@[simp] theorem Twn.func180 : tnp.funcs[180]? = some Tryz.f180 := Twn.look Tryz.func180 rfl rfl
@[simp] theorem Twn.call180 (args : Array Value)(w : World) : (callFunc 180 args).run tnp w = .ok (.enter 180 args) w := Mn.jc Twn.func180 (by kernel_rfl) rfl args w
@[simp] theorem Twn.func181 : tnp.funcs[181]? = some Tryz.f181 := Twn.look Tryz.func181 rfl rfl
@[simp] theorem Twn.func182 : tnp.funcs[182]? = some Tryz.f182 := Twn.look Tryz.func182 rfl rfl
@[simp] theorem Twn.func202 : tnp.funcs[202]? = some Tryz.f202 := Twn.look Tryz.func202 rfl rfl
def Twn.underlying0:=(Twn.underlying_eq 0).trans Tryz.underlying0
def Twn.isAgg0:=λw=>(Twn.run_isAgg 0 w).trans (Tryz.isAgg0 w)
def Twn.sizeOf0:=λw=>(Twn.run_sizeOf 0 w).trans (Tryz.sizeOf0 w)
def Twn.zeroValue0:=λw=>(Twn.run_zeroValue 0 w).trans (Tryz.zeroValue0 w)
def Twn.underlying2:=(Twn.underlying_eq 2).trans Tryz.underlying2
def Twn.isAgg2:=λw=>(Twn.run_isAgg 2 w).trans (Tryz.isAgg2 w)
def Twn.sizeOf2:=λw=>(Twn.run_sizeOf 2 w).trans (Tryz.sizeOf2 w)
def Twn.zeroValue2:=λw=>(Twn.run_zeroValue 2 w).trans (Tryz.zeroValue2 w)
def Twn.underlying3:=(Twn.underlying_eq 3).trans Tryz.underlying3
def Twn.isAgg3:=λw=>(Twn.run_isAgg 3 w).trans (Tryz.isAgg3 w)
def Twn.sizeOf3:=λw=>(Twn.run_sizeOf 3 w).trans (Tryz.sizeOf3 w)
def Twn.zeroValue3:=λw=>(Twn.run_zeroValue 3 w).trans (Tryz.zeroValue3 w)
def Twn.underlying4:=(Twn.underlying_eq 4).trans Tryz.underlying4
def Twn.isAgg4:=λw=>(Twn.run_isAgg 4 w).trans (Tryz.isAgg4 w)
def Twn.sizeOf4:=λw=>(Twn.run_sizeOf 4 w).trans (Tryz.sizeOf4 w)
def Twn.zeroValue4:=λw=>(Twn.run_zeroValue 4 w).trans (Tryz.zeroValue4 w)
def Twn.underlying5:=(Twn.underlying_eq 5).trans Tryz.underlying5
def Twn.isAgg5:=λw=>(Twn.run_isAgg 5 w).trans (Tryz.isAgg5 w)
def Twn.sizeOf5:=λw=>(Twn.run_sizeOf 5 w).trans (Tryz.sizeOf5 w)
def Twn.zeroValue5:=λw=>(Twn.run_zeroValue 5 w).trans (Tryz.zeroValue5 w)
def Twn.underlying9:=(Twn.underlying_eq 9).trans Tryz.underlying9
def Twn.isAgg9:=λw=>(Twn.run_isAgg 9 w).trans (Tryz.isAgg9 w)
def Twn.sizeOf9:=λw=>(Twn.run_sizeOf 9 w).trans (Tryz.sizeOf9 w)
def Twn.zeroValue9:=λw=>(Twn.run_zeroValue 9 w).trans (Tryz.zeroValue9 w)
def Twn.underlying20:=(Twn.underlying_eq 20).trans Tryz.underlying20
def Twn.isAgg20:=λw=>(Twn.run_isAgg 20 w).trans (Tryz.isAgg20 w)
def Twn.sizeOf20:=λw=>(Twn.run_sizeOf 20 w).trans (Tryz.sizeOf20 w)
def Twn.zeroValue20:=λw=>(Twn.run_zeroValue 20 w).trans (Tryz.zeroValue20 w)
def Twn.underlying21:=(Twn.underlying_eq 21).trans Tryz.underlying21
def Twn.isAgg21:=λw=>(Twn.run_isAgg 21 w).trans (Tryz.isAgg21 w)
def Twn.sizeOf21:=λw=>(Twn.run_sizeOf 21 w).trans (Tryz.sizeOf21 w)
def Twn.zeroValue21:=λw=>(Twn.run_zeroValue 21 w).trans (Tryz.zeroValue21 w)
def Twn.underlying22:=(Twn.underlying_eq 22).trans Tryz.underlying22
def Twn.isAgg22:=λw=>(Twn.run_isAgg 22 w).trans (Tryz.isAgg22 w)
def Twn.sizeOf22:=λw=>(Twn.run_sizeOf 22 w).trans (Tryz.sizeOf22 w)
def Twn.zeroValue22:=λw=>(Twn.run_zeroValue 22 w).trans (Tryz.zeroValue22 w)
def Twn.underlying32:=(Twn.underlying_eq 32).trans Tryz.underlying32
def Twn.underlying37:=(Twn.underlying_eq 37).trans Tryz.underlying37
def Twn.underlying41:=(Twn.underlying_eq 41).trans Tryz.underlying41
def Twn.isAgg41:=λw=>(Twn.run_isAgg 41 w).trans (Tryz.isAgg41 w)
def Twn.sizeOf41:=λw=>(Twn.run_sizeOf 41 w).trans (Tryz.sizeOf41 w)
def Twn.zeroValue41:=λw=>(Twn.run_zeroValue 41 w).trans (Tryz.zeroValue41 w)
def Twn.underlying43:=(Twn.underlying_eq 43).trans Tryz.underlying43
def Twn.isAgg43:=λw=>(Twn.run_isAgg 43 w).trans (Tryz.isAgg43 w)
def Twn.sizeOf43:=λw=>(Twn.run_sizeOf 43 w).trans (Tryz.sizeOf43 w)
def Twn.zeroValue43:=λw=>(Twn.run_zeroValue 43 w).trans (Tryz.zeroValue43 w)
def Twn.underlying44:=(Twn.underlying_eq 44).trans Tryz.underlying44
def Twn.isAgg44:=λw=>(Twn.run_isAgg 44 w).trans (Tryz.isAgg44 w)
def Twn.sizeOf44:=λw=>(Twn.run_sizeOf 44 w).trans (Tryz.sizeOf44 w)
def Twn.zeroValue44:=λw=>(Twn.run_zeroValue 44 w).trans (Tryz.zeroValue44 w)
def Twn.underlying58:=(Twn.underlying_eq 58).trans Tryz.underlying58
def Twn.isAgg58:=λw=>(Twn.run_isAgg 58 w).trans (Tryz.isAgg58 w)
def Twn.underlying60:=(Twn.underlying_eq 60).trans Tryz.underlying60
def Twn.underlying69:=(Twn.underlying_eq 69).trans Tryz.underlying69
def Twn.isAgg69:=λw=>(Twn.run_isAgg 69 w).trans (Tryz.isAgg69 w)
def Twn.sizeOf69:=λw=>(Twn.run_sizeOf 69 w).trans (Tryz.sizeOf69 w)
def Twn.zeroValue69:=λw=>(Twn.run_zeroValue 69 w).trans (Tryz.zeroValue69 w)
def Twn.isAgg76:=λw=>(Twn.run_isAgg 76 w).trans (Tryz.isAgg76 w)
def Twn.sizeOf76:=λw=>(Twn.run_sizeOf 76 w).trans (Tryz.sizeOf76 w)
def Twn.underlying86:=(Twn.underlying_eq 86).trans Tryz.underlying86
def Twn.underlying102:=(Twn.underlying_eq 102).trans Tryz.underlying102
def Twn.isAgg102:=λw=>(Twn.run_isAgg 102 w).trans (Tryz.isAgg102 w)
def Twn.sizeOf102:=λw=>(Twn.run_sizeOf 102 w).trans (Tryz.sizeOf102 w)
def Twn.zeroValue102:=λw=>(Twn.run_zeroValue 102 w).trans (Tryz.zeroValue102 w)
def Twn.underlying114:=(Twn.underlying_eq 114).trans Tryz.underlying114
def Twn.isAgg114:=λw=>(Twn.run_isAgg 114 w).trans (Tryz.isAgg114 w)
def Twn.sizeOf114:=λw=>(Twn.run_sizeOf 114 w).trans (Tryz.sizeOf114 w)
def Twn.zeroValue114:=λw=>(Twn.run_zeroValue 114 w).trans (Tryz.zeroValue114 w)
def Twn.underlying119:=(Twn.underlying_eq 119).trans Tryz.underlying119
def Twn.isAgg119:=λw=>(Twn.run_isAgg 119 w).trans (Tryz.isAgg119 w)
def Twn.sizeOf119:=λw=>(Twn.run_sizeOf 119 w).trans (Tryz.sizeOf119 w)
def Twn.underlying121:=(Twn.underlying_eq 121).trans Tryz.underlying121
def Twn.isAgg121:=λw=>(Twn.run_isAgg 121 w).trans (Tryz.isAgg121 w)
def Twn.sizeOf121:=λw=>(Twn.run_sizeOf 121 w).trans (Tryz.sizeOf121 w)
def Twn.zeroValue121:=λw=>(Twn.run_zeroValue 121 w).trans (Tryz.zeroValue121 w)
def Twn.underlying122:=(Twn.underlying_eq 122).trans Tryz.underlying122
def Twn.isAgg122:=λw=>(Twn.run_isAgg 122 w).trans (Tryz.isAgg122 w)
def Twn.sizeOf122:=λw=>(Twn.run_sizeOf 122 w).trans (Tryz.sizeOf122 w)
def Twn.zeroValue122:=λw=>(Twn.run_zeroValue 122 w).trans (Tryz.zeroValue122 w)
def Twn.underlying123:=(Twn.underlying_eq 123).trans Tryz.underlying123
def Twn.isAgg123:=λw=>(Twn.run_isAgg 123 w).trans (Tryz.isAgg123 w)
def Twn.sizeOf123:=λw=>(Twn.run_sizeOf 123 w).trans (Tryz.sizeOf123 w)
def Twn.zeroValue123:=λw=>(Twn.run_zeroValue 123 w).trans (Tryz.zeroValue123 w)
def Twn.underlying124:=(Twn.underlying_eq 124).trans Tryz.underlying124
def Twn.isAgg124:=λw=>(Twn.run_isAgg 124 w).trans (Tryz.isAgg124 w)
def Twn.sizeOf124:=λw=>(Twn.run_sizeOf 124 w).trans (Tryz.sizeOf124 w)
def Twn.zeroValue124:=λw=>(Twn.run_zeroValue 124 w).trans (Tryz.zeroValue124 w)
def Twn.underlying136:=(Twn.underlying_eq 136).trans Tryz.underlying136
def Twn.underlying148:=(Twn.underlying_eq 148).trans Tryz.underlying148
def Twn.isAgg148:=λw=>(Twn.run_isAgg 148 w).trans (Tryz.isAgg148 w)
def Twn.sizeOf148:=λw=>(Twn.run_sizeOf 148 w).trans (Tryz.sizeOf148 w)
def Twn.zeroValue148:=λw=>(Twn.run_zeroValue 148 w).trans (Tryz.zeroValue148 w)
def Twn.underlying178:=(Twn.underlying_eq 178).trans Tryz.underlying178
def Twn.isAgg178:=λw=>(Twn.run_isAgg 178 w).trans (Tryz.isAgg178 w)
def Twn.sizeOf178:=λw=>(Twn.run_sizeOf 178 w).trans (Tryz.sizeOf178 w)
def Twn.zeroValue178:=λw=>(Twn.run_zeroValue 178 w).trans (Tryz.zeroValue178 w)
def Twn.underlying181:=(Twn.underlying_eq 181).trans Tryz.underlying181
def Twn.isAgg181:=λw=>(Twn.run_isAgg 181 w).trans (Tryz.isAgg181 w)
def Twn.sizeOf181:=λw=>(Twn.run_sizeOf 181 w).trans (Tryz.sizeOf181 w)
def Twn.zeroValue181:=λw=>(Twn.run_zeroValue 181 w).trans (Tryz.zeroValue181 w)
def Twn.underlying201:=(Twn.underlying_eq 201).trans Tryz.underlying201
def Twn.isAgg201:=λw=>(Twn.run_isAgg 201 w).trans (Tryz.isAgg201 w)
def Twn.sizeOf201:=λw=>(Twn.run_sizeOf 201 w).trans (Tryz.sizeOf201 w)
def Twn.zeroValue201:=λw=>(Twn.run_zeroValue 201 w).trans (Tryz.zeroValue201 w)
def Twn.underlying202:=(Twn.underlying_eq 202).trans Tryz.underlying202
def Twn.isAgg202:=λw=>(Twn.run_isAgg 202 w).trans (Tryz.isAgg202 w)
def Twn.sizeOf202:=λw=>(Twn.run_sizeOf 202 w).trans (Tryz.sizeOf202 w)
def Twn.underlying210:=(Twn.underlying_eq 210).trans Tryz.underlying210
def Twn.isAgg210:=λw=>(Twn.run_isAgg 210 w).trans (Tryz.isAgg210 w)
def Twn.sizeOf210:=λw=>(Twn.run_sizeOf 210 w).trans (Tryz.sizeOf210 w)
def Twn.zeroValue210:=λw=>(Twn.run_zeroValue 210 w).trans (Tryz.zeroValue210 w)
def Twn.underlying211:=(Twn.underlying_eq 211).trans Tryz.underlying211
def Twn.isAgg211:=λw=>(Twn.run_isAgg 211 w).trans (Tryz.isAgg211 w)
def Twn.sizeOf211:=λw=>(Twn.run_sizeOf 211 w).trans (Tryz.sizeOf211 w)
def Twn.zeroValue211:=λw=>(Twn.run_zeroValue 211 w).trans (Tryz.zeroValue211 w)
def Twn.underlying212:=(Twn.underlying_eq 212).trans Tryz.underlying212
end Go.Proofs
