/- Parts of the proof of HeadUsers; no condition. -/
import Derived.Test.YtolaiebjmhieiaaGreatDoorM01
import Derived.Shelf.Spec.SlicesInsert
import Derived.Shelf.Spec.SlicesInsertGrow
import Derived.Ground.Names2Prog
import Derived.Test.YtolaiebjmhieiaaGreatDoorProg
import Derived.Shelf.Strings.Trim
import Derived.Shelf.Small.Utf8
import Derived.Shelf.Small.Bits
import Derived.Shelf.Small.Strs
import Derived.Shelf.Small.Wraps
import Derived.Shelf.Utf8.RuneCount
import Derived.Shelf.Strconv.Itoa0
import Derived.Shelf.Strings.Search1
import Derived.Shelf.Strings.Search2
import Derived.Shelf.Strings.Search3
import Derived.Shelf.Strings.Count
import Derived.Shelf.LaysM
import Derived.Shelf.Strings.Shaped
import Derived.Shelf.Sort.Plain
import Derived.Shelf.Strings.LastIndex
import Derived.Shelf.Strings.Prefix
import Derived.Shelf.Strings.Split
import Derived.Shelf.Strings.Fields
import Derived.Shelf.Strings.SplitShaped
import Derived.Shelf.Strings.Runes
import Derived.Shelf.Strings.RuneCount
import Derived.Shelf.Strings.AsciiSet
import Derived.Shelf.Strings.Explode
import Derived.Shelf.Slices.Turned
import Derived.Shelf.Slices.ReverseS
import Derived.Shelf.Slices.Clone
import Derived.Shelf.Slices.Cells
import Derived.Shelf.Slices.In.SortNone
import Derived.Ground.SlgnProg
import Derived.Ground.NamesProg
import Derived.Ground.SlsfProg
import Derived.Below
import Derived.Deep.Draws
import Derived.Deep.AppendLies
import Derived.Maps.AppendAt
import Derived.OwnWalk
import Derived.Laws.BytesArg
import Derived.Laws.MakeOwn
import Derived.Laws.OwnMore
import Derived.Deep.OwnRows
import Derived.Tactics
import Derived.Lib.ConvBytes
import Derived.Laws.Slices
import Derived.WalkKit
import Derived.KernelRfl
import Derived.RowKit3
import Derived.Deep.LoopGhost
import Derived.Deep.QuietTactic
import Derived.BigQuiet
import Derived.WideLaws
import Derived.Deep.DeepCutAuto
import Derived.Deep.CutBlock
import Derived.Deep.RegionHeld3
import Derived.Laws.Rows
import Derived.Lib.AppendStr
import Derived.ArgAppend
import Derived.Laws.IdiomCopy
import Derived.OrdersHeld
import Derived.Laws.BitsLemmas
import Derived.RowKit
set_option maxHeartbeats 8000000
set_option maxRecDepth 100000
set_option linter.unusedVariables false
set_option linter.unusedSimpArgs false
section
namespace Go.Proofs
open Go.Shelf
def Tryz.kM:Go.Shelf.Ren:=⟨fun|22=>77|29=>134|30=>135|36=>171|17=>193|n=>n,fun|24=>23|9=>9|3=>3|4=>4|0=>0|n=>n,fun|n=>n⟩
theorem Tryz.rV:Go.Proofs.Lays2.n22 Tryz.prog Tryz.kM:={
 mixed:=by kernel_rfl
 f17:=Tryz.func193.trans (congrArg some (by kernel_rfl))
 f22:=Tryz.func77.trans (congrArg some (by kernel_rfl))
 f29:=Tryz.func134.trans (congrArg some (by kernel_rfl))
 f30:=Tryz.func135.trans (congrArg some (by kernel_rfl))
 f36:=Tryz.func171.trans (congrArg some (by kernel_rfl))
 t0:=Tryz.underlying0
 a0:=Tryz.isAgg0
 z0:=Tryz.sizeOf0
 v0:=Tryz.zeroValue0
 t3:=Tryz.underlying3
 a3:=Tryz.isAgg3
 z3:=Tryz.sizeOf3
 v3:=Tryz.zeroValue3
 t4:=Tryz.underlying4
 a4:=Tryz.isAgg4
 z4:=Tryz.sizeOf4
 v4:=Tryz.zeroValue4
 t9:=Tryz.underlying9
 a9:=Tryz.isAgg9
 z9:=Tryz.sizeOf9
 v9:=Tryz.zeroValue9
 t24:=Tryz.underlying23
 a24:=Tryz.isAgg23
 z24:=Tryz.sizeOf23
 v24:=Tryz.zeroValue23
 i9:=by kernel_rfl}
def Tryz.CP:Go.Shelf.Ren:=⟨fun|227=>128|n=>n,fun|9=>9|116=>185|4=>4|0=>0|3=>3|5=>5|n=>n,fun|n=>n⟩
theorem Tryz.JV:Go.Proofs.Lays.n227 Tryz.prog Tryz.CP:={
 mixed:=by kernel_rfl
 f227:=Tryz.func128.trans (congrArg some (by kernel_rfl))
 t0:=Tryz.underlying0
 a0:=Tryz.isAgg0
 z0:=Tryz.sizeOf0
 v0:=Tryz.zeroValue0
 t3:=Tryz.underlying3
 a3:=Tryz.isAgg3
 z3:=Tryz.sizeOf3
 v3:=Tryz.zeroValue3
 t4:=Tryz.underlying4
 a4:=Tryz.isAgg4
 z4:=Tryz.sizeOf4
 v4:=Tryz.zeroValue4
 t5:=Tryz.underlying5
 a5:=Tryz.isAgg5
 z5:=Tryz.sizeOf5
 v5:=Tryz.zeroValue5
 t9:=Tryz.underlying9
 a9:=Tryz.isAgg9
 z9:=Tryz.sizeOf9
 v9:=Tryz.zeroValue9
 t116:=Tryz.underlying185
 a116:=Tryz.isAgg185
 z116:=Tryz.sizeOf185}
open Go.RowKit Go.Lib in
theorem Tryz.strings_makeASCIISet (hv116:∀w,(zeroValue 185).run Tryz.prog w= .ok (.agg (Array.replicate 256 (.bool false))) w)(chars:ByteArray)(w:World)(hs:chars.size<4294967281)(hascii:∀(j:Nat) b,chars.data.toList[j]? =some b→b.toNat<128):
 Calls Tryz.prog 128 #[.string chars] w fun e w'=>e= .returned (.tuple #[.agg (Lib.setCells chars.data.toList),.bool true])∧w'=w.alloc (.cells (Lib.setCells chars.data.toList) 185):=Any.strings_makeASCIISet Tryz.JV hv116 (by kernel_rfl) chars w hs hascii
def Tryz.CO:Go.Shelf.Ren:=⟨fun|228=>167|n=>n,fun|124=>189|5=>5|4=>4|0=>0|116=>185|n=>n,fun|n=>n⟩
theorem Tryz.JU:Go.Proofs.Lays.n228 Tryz.prog Tryz.CO:={
 mixed:=by kernel_rfl
 f228:=Tryz.func167.trans (congrArg some (by kernel_rfl))
 t0:=Tryz.underlying0
 a0:=Tryz.isAgg0
 z0:=Tryz.sizeOf0
 v0:=Tryz.zeroValue0
 t4:=Tryz.underlying4
 a4:=Tryz.isAgg4
 z4:=Tryz.sizeOf4
 v4:=Tryz.zeroValue4
 t5:=Tryz.underlying5
 a5:=Tryz.isAgg5
 z5:=Tryz.sizeOf5
 v5:=Tryz.zeroValue5
 t116:=Tryz.underlying185
 a116:=Tryz.isAgg185
 z116:=Tryz.sizeOf185
 t124:=Tryz.underlying189
 a124:=Tryz.isAgg189
 z124:=Tryz.sizeOf189
 v124:=Tryz.zeroValue189}
open Go.RowKit Go.Lib in
theorem Tryz.asciiSet_contains (b:Nat)(x:UInt8)(v:Bool)(w:World)(hc:w.cell? ⟨b,x.toNat,none⟩=some (.bool v)):
 Calls Tryz.prog 167 #[.pointer (some ⟨b,0,none⟩),.int .u8 x.toNat] w fun e w'=>e= .returned (.bool v)∧w'=w:=Any.asciiSet_contains Tryz.JU b x v w hc
def Tryz.yg:Go.Shelf.Ren:=⟨fun|16=>76|n=>n,fun|24=>23|9=>9|4=>4|n=>n,fun|n=>n⟩
theorem Tryz.laysNm216:Go.Proofs.Lays2.n16 Tryz.prog Tryz.yg:={
 mixed:=by kernel_rfl
 f16:=Tryz.func76.trans (congrArg some (by kernel_rfl))
 t4:=Tryz.underlying4
 a4:=Tryz.isAgg4
 z4:=Tryz.sizeOf4
 v4:=Tryz.zeroValue4
 t9:=Tryz.underlying9
 a9:=Tryz.isAgg9
 z9:=Tryz.sizeOf9
 v9:=Tryz.zeroValue9
 t24:=Tryz.underlying23
 a24:=Tryz.isAgg23
 z24:=Tryz.sizeOf23
 v24:=Tryz.zeroValue23
 i9:=by kernel_rfl}
open Go.RowKit Go.Lib in
theorem Tryz.slices_Clone_string (b off n c:Nat)(zs:List ByteArray)(w:World)(hz:n≤zs.length)(hbig:n*16≤140737488355328)(hc:∀j,j<zs.length→w.cell? ⟨b,off+j,none⟩=some (.string (zs.getD j ByteArray.empty))):
 Calls Tryz.prog 76 #[.slice (some ⟨b,off,none⟩) n c] w fun e w'=>∃v',e= .returned v'∧w'.ownsRow w.heap.size 9 1 v' n ((zs.take n).map (Value.string))∧v'≠.slice none 0 0∧Below w.heap.size w w':=Any.slices_Clone_string Tryz.laysNm216 b off n c zs w hz hbig hc
open Go.RowKit Go.Lib in
theorem Tryz.slices_Clone_string_nil (n c:Nat)(w:World):
 Calls Tryz.prog 76 #[.slice none n c] w fun e w'=>e= .returned (.slice none 0 0)∧w'=w:=Any.slices_Clone_string_nil Tryz.laysNm216 n c w
def Tryz.CQ:Go.Shelf.Ren:=⟨fun|190=>29|125=>56|258=>55|128=>95|129=>96|302=>86|303=>87|304=>88|305=>89|306=>90|307=>91|308=>92|309=>93|310=>94|333=>140|329=>141|330=>142|334=>143|335=>144|336=>61|344=>182|n=>n,fun|31=>23|9=>9|3=>3|46=>116|0=>0|51=>78|53=>159|4=>4|183=>151|182=>150|131=>155|5=>5|218=>195|222=>199|228=>222|229=>193|n=>n,fun|n=>n⟩
theorem Tryz.lays190:Go.Proofs.Lays.n190 Tryz.prog Tryz.CQ:={
 mixed:=by kernel_rfl
 f125:=Tryz.func56.trans (congrArg some (by kernel_rfl))
 f128:=Tryz.func95.trans (congrArg some (by kernel_rfl))
 f129:=Tryz.func96.trans (congrArg some (by kernel_rfl))
 f190:=Tryz.func29.trans (congrArg some (by kernel_rfl))
 f258:=Tryz.func55.trans (congrArg some (by kernel_rfl))
 f302:=Tryz.func86.trans (congrArg some (by kernel_rfl))
 f303:=Tryz.func87.trans (congrArg some (by kernel_rfl))
 f304:=Tryz.func88.trans (congrArg some (by kernel_rfl))
 f305:=Tryz.func89.trans (congrArg some (by kernel_rfl))
 f306:=Tryz.func90.trans (congrArg some (by kernel_rfl))
 f307:=Tryz.func91.trans (congrArg some (by kernel_rfl))
 f308:=Tryz.func92.trans (congrArg some (by kernel_rfl))
 f309:=Tryz.func93.trans (congrArg some (by kernel_rfl))
 f310:=Tryz.func94.trans (congrArg some (by kernel_rfl))
 f329:=Tryz.func141.trans (congrArg some (by kernel_rfl))
 f330:=Tryz.func142.trans (congrArg some (by kernel_rfl))
 f333:=Tryz.func140.trans (congrArg some (by kernel_rfl))
 f334:=Tryz.func143.trans (congrArg some (by kernel_rfl))
 f335:=Tryz.func144.trans (congrArg some (by kernel_rfl))
 f336:=Tryz.func61.trans (congrArg some (by kernel_rfl))
 f344:=Tryz.func182.trans (congrArg some (by kernel_rfl))
 t0:=Tryz.underlying0
 a0:=Tryz.isAgg0
 z0:=Tryz.sizeOf0
 v0:=Tryz.zeroValue0
 t3:=Tryz.underlying3
 a3:=Tryz.isAgg3
 z3:=Tryz.sizeOf3
 v3:=Tryz.zeroValue3
 t4:=Tryz.underlying4
 a4:=Tryz.isAgg4
 z4:=Tryz.sizeOf4
 v4:=Tryz.zeroValue4
 t5:=Tryz.underlying5
 a5:=Tryz.isAgg5
 z5:=Tryz.sizeOf5
 v5:=Tryz.zeroValue5
 t9:=Tryz.underlying9
 a9:=Tryz.isAgg9
 z9:=Tryz.sizeOf9
 v9:=Tryz.zeroValue9
 t31:=Tryz.underlying23
 a31:=Tryz.isAgg23
 z31:=Tryz.sizeOf23
 v31:=Tryz.zeroValue23
 t46:=Tryz.underlying116
 a46:=Tryz.isAgg116
 z46:=Tryz.sizeOf116
 v46:=Tryz.zeroValue116
 t51:=Tryz.underlying78
 a51:=Tryz.isAgg78
 z51:=Tryz.sizeOf78
 v51:=Tryz.zeroValue78
 t53:=Tryz.underlying159
 a53:=Tryz.isAgg159
 z53:=Tryz.sizeOf159
 v53:=Tryz.zeroValue159
 t131:=Tryz.underlying155
 a131:=Tryz.isAgg155
 z131:=Tryz.sizeOf155
 v131:=Tryz.zeroValue155
 t182:=Tryz.underlying150
 a182:=Tryz.isAgg150
 z182:=Tryz.sizeOf150
 v182:=Tryz.zeroValue150
 t183:=Tryz.underlying151
 a183:=Tryz.isAgg151
 z183:=Tryz.sizeOf151
 v183:=Tryz.zeroValue151
 t218:=Tryz.underlying195
 a218:=Tryz.isAgg195
 z218:=Tryz.sizeOf195
 v218:=Tryz.zeroValue195
 t222:=Tryz.underlying199
 a222:=Tryz.isAgg199
 z222:=Tryz.sizeOf199
 v222:=Tryz.zeroValue199
 t228:=Tryz.underlying222
 a228:=Tryz.isAgg222
 z228:=Tryz.sizeOf222
 v228:=Tryz.zeroValue222
 t229:=Tryz.underlying193
 a229:=Tryz.isAgg193
 z229:=Tryz.sizeOf193
 v229:=Tryz.zeroValue193}
open Go.Sort Go.RowKit in
theorem Tryz.slices_Sort_string (blk off cap:Nat)(ss:List (List UInt8))(w:World)(hH:Holds encStr w blk off ss.toArray)(hblk:blk<w.heap.size)(hsz:ss.length<4611686018427387904):
 Calls Tryz.prog 29 #[.slice (some ⟨blk,off,none⟩) ss.length cap] w fun e w'=>
  e= .returned (.tuple #[])∧∃n os,w'=grow (putRow encStr (Sort.ahead w n) blk off (ss.mergeSort fun x y=>decide (x≤y)).toArray) os:=Any.slices_Sort_string Tryz.lays190 blk off cap ss w hH hblk hsz
open Go.RowKit Go.Sort in
theorem Tryz.slices_Sort_string_none (p:Option Addr)(cap:Nat)(w:World):
 Calls Tryz.prog 29 #[.slice p 0 cap] w fun e w'=>e= .returned (.tuple #[])∧w'=w:=Any.slices_Sort_string_none Tryz.lays190 p cap w
def Tryz.CV:Go.Shelf.Ren:=⟨fun|137=>73|217=>132|266=>170|n=>n,fun|9=>9|5=>5|3=>3|n=>n,fun|n=>n⟩
theorem Tryz.lays137:Go.Proofs.Lays.n137 Tryz.prog Tryz.CV:={
 mixed:=by kernel_rfl
 f137:=Tryz.func73.trans (congrArg some (by kernel_rfl))
 f217:=Tryz.func132.trans (congrArg some (by kernel_rfl))
 f266:=Tryz.func170.trans (congrArg some (by kernel_rfl))
 t3:=Tryz.underlying3
 a3:=Tryz.isAgg3
 z3:=Tryz.sizeOf3
 v3:=Tryz.zeroValue3
 t5:=Tryz.underlying5
 a5:=Tryz.isAgg5
 z5:=Tryz.sizeOf5
 v5:=Tryz.zeroValue5
 t9:=Tryz.underlying9
 a9:=Tryz.isAgg9
 z9:=Tryz.sizeOf9
 v9:=Tryz.zeroValue9}
open Go.RowKit in
theorem Tryz.strings_IndexByte (s:ByteArray)(c:Int)(w:World):
 Calls Tryz.prog 73 #[.string s,.int .u8 c] w fun e w'=>e= .returned (.int .i64 (Lib.indexByte s.data.toList c.toNat.toUInt8))∧w'=w:=Any.strings_IndexByte Tryz.lays137 s c w
def Tryz.CU:Go.Shelf.Ren:=⟨fun|143=>185|219=>199|217=>132|225=>204|224=>203|267=>205|266=>170|314=>206|n=>n,fun|9=>9|3=>3|4=>4|5=>5|46=>116|146=>251|51=>78|n=>n,fun|1=>1|n=>n⟩
theorem Tryz.lays143:Go.Proofs.Lays.n143 Tryz.prog Tryz.CU:={
 mixed:=by kernel_rfl
 f143:=Tryz.func185.trans (congrArg some (by kernel_rfl))
 f217:=Tryz.func132.trans (congrArg some (by kernel_rfl))
 f219:=Tryz.func199.trans (congrArg some (by kernel_rfl))
 f224:=Tryz.func203.trans (congrArg some (by kernel_rfl))
 f225:=Tryz.func204.trans (congrArg some (by kernel_rfl))
 f266:=Tryz.func170.trans (congrArg some (by kernel_rfl))
 f267:=Tryz.func205.trans (congrArg some (by kernel_rfl))
 f314:=Tryz.func206.trans (congrArg some (by kernel_rfl))
 t3:=Tryz.underlying3
 a3:=Tryz.isAgg3
 z3:=Tryz.sizeOf3
 v3:=Tryz.zeroValue3
 t4:=Tryz.underlying4
 a4:=Tryz.isAgg4
 z4:=Tryz.sizeOf4
 v4:=Tryz.zeroValue4
 t5:=Tryz.underlying5
 a5:=Tryz.isAgg5
 z5:=Tryz.sizeOf5
 v5:=Tryz.zeroValue5
 t9:=Tryz.underlying9
 a9:=Tryz.isAgg9
 z9:=Tryz.sizeOf9
 v9:=Tryz.zeroValue9
 t46:=Tryz.underlying116
 a46:=Tryz.isAgg116
 z46:=Tryz.sizeOf116
 v46:=Tryz.zeroValue116
 t51:=Tryz.underlying78
 a51:=Tryz.isAgg78
 z51:=Tryz.sizeOf78
 v51:=Tryz.zeroValue78
 t146:=Tryz.underlying251
 a146:=Tryz.isAgg251
 z146:=Tryz.sizeOf251
 v146:=Tryz.zeroValue251
 g1:=by kernel_rfl}
open Go.RowKit Go.Lib in
theorem Tryz.strings_Index (s sub:ByteArray)(m:Int)(w:World)(hs:s.size<4294967281)(hm:w.cell? ⟨1,0,none⟩=some (.int .i64 m)):
 Calls Tryz.prog 185 #[.string s,.string sub] w fun e w'=>e= .returned (.int .i64 (Lib.index s.data.toList sub.data.toList))∧w'=w:=Any.strings_Index Tryz.lays143 s sub m w hs hm
def Tryz.CS:Go.Shelf.Ren:=⟨fun|144=>188|143=>185|219=>199|217=>132|225=>204|224=>203|267=>205|266=>170|314=>206|n=>n,fun|9=>9|4=>4|3=>3|5=>5|46=>116|146=>251|51=>78|n=>n,fun|1=>1|n=>n⟩
theorem Tryz.lays144:Go.Proofs.Lays.n144 Tryz.prog Tryz.CS:={
 mixed:=by kernel_rfl
 f143:=Tryz.func185.trans (congrArg some (by kernel_rfl))
 f144:=Tryz.func188.trans (congrArg some (by kernel_rfl))
 f217:=Tryz.func132.trans (congrArg some (by kernel_rfl))
 f219:=Tryz.func199.trans (congrArg some (by kernel_rfl))
 f224:=Tryz.func203.trans (congrArg some (by kernel_rfl))
 f225:=Tryz.func204.trans (congrArg some (by kernel_rfl))
 f266:=Tryz.func170.trans (congrArg some (by kernel_rfl))
 f267:=Tryz.func205.trans (congrArg some (by kernel_rfl))
 f314:=Tryz.func206.trans (congrArg some (by kernel_rfl))
 t3:=Tryz.underlying3
 a3:=Tryz.isAgg3
 z3:=Tryz.sizeOf3
 v3:=Tryz.zeroValue3
 t4:=Tryz.underlying4
 a4:=Tryz.isAgg4
 z4:=Tryz.sizeOf4
 v4:=Tryz.zeroValue4
 t5:=Tryz.underlying5
 a5:=Tryz.isAgg5
 z5:=Tryz.sizeOf5
 v5:=Tryz.zeroValue5
 t9:=Tryz.underlying9
 a9:=Tryz.isAgg9
 z9:=Tryz.sizeOf9
 v9:=Tryz.zeroValue9
 t46:=Tryz.underlying116
 a46:=Tryz.isAgg116
 z46:=Tryz.sizeOf116
 v46:=Tryz.zeroValue116
 t51:=Tryz.underlying78
 a51:=Tryz.isAgg78
 z51:=Tryz.sizeOf78
 v51:=Tryz.zeroValue78
 t146:=Tryz.underlying251
 a146:=Tryz.isAgg251
 z146:=Tryz.sizeOf251
 v146:=Tryz.zeroValue251
 g1:=by kernel_rfl}
open Go.RowKit Go.Lib in
theorem Tryz.strings_Contains (s sub:ByteArray)(m:Int)(w:World)(hs:s.size<4294967281)(hm:w.cell? ⟨1,0,none⟩=some (.int .i64 m)):
 Calls Tryz.prog 188 #[.string s,.string sub] w fun e w'=>e= .returned (.bool (Lib.contains s.data.toList sub.data.toList))∧w'=w:=Any.strings_Contains Tryz.lays144 s sub m w hs hm
end Go.Proofs
end
section
namespace Go.Proofs.YtolaiebjmhieiaaGreatDoor
open Go.RowKit
def Glob (w:World):Prop:=(∃m,w.cell? ⟨1,0,none⟩=some (.int .i64 m))∧True
theorem Glob.below {w0 w:World}(h:Glob w0)(hb:Below w0.heap.size w0 w):Glob w:=by
 obtain ⟨⟨m,hm⟩,_⟩:=h
 exact ⟨⟨m,(hb.cell (World.block_lt_of_cell? _ _ hm)).trans hm⟩,trivial⟩
end Go.Proofs.YtolaiebjmhieiaaGreatDoor
end
section
namespace Go.Proofs.YtolaiebjmhieiaaGreatDoor.OScan
open Go.RowKit YtolaiebjmhieiaaGreatDoorW.PrintWords YtolaiebjmhieiaaGreatDoorW.PrintLast YtolaiebjmhieiaaGreatDoorW.PrintMore
attribute [local go_sem] jF jD ku jZ jc iZ jE jC
def bK (w0 W:World)(g:Nat)(f0:ByteArray)(f1:Int)(f2:Value)(f3:List ByteArray)(f4:Bool):Prop:=∃A3 c3,W.heap[g]? =some (.cells #[.string f0,.int .i64 f1,f2,.slice A3 f3.length c3,.bool f4] 125 (0,0))∧w0.heap.size≤g∧Kd.C Kd.string w0 A3 f3.length f3
theorem bK.grown {w0 W:World}{g:Nat}{f0:ByteArray}{f1:Int}{f2:Value}{f3:List ByteArray}{f4:Bool}{W1:World}{row:Option Nat}(h:bK w0 W g f0 f1 f2 f3 f4)(hw:W.grownBy W1 row)(hne:some g≠row):bK w0 W1 g f0 f1 f2 f3 f4:=by
 obtain ⟨A3,c3,hb,hg,hr3⟩:=h
 exact ⟨A3,c3,kP hb hw hne,hg,hr3⟩
theorem bK.below {w0 W:World}{g:Nat}{f0:ByteArray}{f1:Int}{f2:Value}{f3:List ByteArray}{f4:Bool}{W1:World}(h:bK w0 W g f0 f1 f2 f3 f4)(hw:Below W.heap.size W W1):bK w0 W1 g f0 f1 f2 f3 f4:=h.grown (xg hw none) (by simp)
theorem bK.alloc {w0 W:World}{g:Nat}{f0:ByteArray}{f1:Int}{f2:Value}{f3:List ByteArray}{f4:Bool}(h:bK w0 W g f0 f1 f2 f3 f4)(o:Obj):bK w0 (W.alloc o) g f0 f1 f2 f3 f4:=h.below (aA (Below.refl _ _) o)
theorem bK.drewN {w0 W:World}{g:Nat}{f0:ByteArray}{f1:Int}{f2:Value}{f3:List ByteArray}{f4:Bool}(h:bK w0 W g f0 f1 f2 f3 f4)(m:Nat):bK w0 (W.drewN m) g f0 f1 f2 f3 f4:=h
theorem bK.drew {w0 W:World}{g:Nat}{f0:ByteArray}{f1:Int}{f2:Value}{f3:List ByteArray}{f4:Bool}(h:bK w0 W g f0 f1 f2 f3 f4):bK w0 W.drew g f0 f1 f2 f3 f4:=h
theorem bK.lt {w0 W:World}{g:Nat}{f0:ByteArray}{f1:Int}{f2:Value}{f3:List ByteArray}{f4:Bool}(h:bK w0 W g f0 f1 f2 f3 f4):g<W.heap.size:=by
 obtain ⟨A3,c3,hb,hg,hr3⟩:=h
 exact aT hb
theorem bK.ge {w0 W:World}{g:Nat}{f0:ByteArray}{f1:Int}{f2:Value}{f3:List ByteArray}{f4:Bool}(h:bK w0 W g f0 f1 f2 f3 f4):w0.heap.size≤g:=by
 obtain ⟨A3,c3,hb,hg,hr3⟩:=h
 exact hg
theorem bK.far {w0 W:World}{g:Nat}{f0:ByteArray}{f1:Int}{f2:Value}{f3:List ByteArray}{f4:Bool}{p:Addr}(h:bK w0 W g f0 f1 f2 f3 f4)(hne:g≠p.block)(u:Value):bK w0 (W.setCell p u) g f0 f1 f2 f3 f4:=by
 obtain ⟨A3,c3,hb,hg,hr3⟩:=h
 exact ⟨A3,c3,dX hb hne u,hg,hr3⟩
theorem eX {W:World}{g:Nat}{A3:Option Addr}{c3:Nat}{f0:ByteArray}{f1:Int}{f2:Value}{f3:List ByteArray}{f4:Bool}(h:W.heap[g]? =some (.cells #[.string f0,.int .i64 f1,f2,.slice A3 f3.length c3,.bool f4] 125 (0,0))):W.cell? ⟨g,0,none⟩=some (.string f0):=(aC h 0).trans rfl
theorem dW {W:World}{g:Nat}{A3:Option Addr}{c3:Nat}{f0:ByteArray}{f1:Int}{f2:Value}{f3:List ByteArray}{f4:Bool}(h:W.heap[g]? =some (.cells #[.string f0,.int .i64 f1,f2,.slice A3 f3.length c3,.bool f4] 125 (0,0))):W.cell? ⟨g,1,none⟩=some (.int .i64 f1):=(aC h 1).trans rfl
theorem bK.BM {w0 W:World}{g:Nat}{f0:ByteArray}{f1:Int}{f2:Value}{f3:List ByteArray}{f4:Bool}(h:bK w0 W g f0 f1 f2 f3 f4)(x:Int):bK w0 (W.setCell ⟨g,1,none⟩ (.int .i64 x)) g f0 x f2 f3 f4:=by
 obtain ⟨A3,c3,hb,hg,hr3⟩:=h
 exact ⟨A3,c3,by simpa using fJ hb 1 (.int .i64 x),hg,hr3⟩
theorem fK {W:World}{g:Nat}{A3:Option Addr}{c3:Nat}{f0:ByteArray}{f1:Int}{f2:Value}{f3:List ByteArray}{f4:Bool}(h:W.heap[g]? =some (.cells #[.string f0,.int .i64 f1,f2,.slice A3 f3.length c3,.bool f4] 125 (0,0))):W.cell? ⟨g,2,none⟩=some (f2):=(aC h 2).trans rfl
theorem fP {W:World}{g:Nat}{A3:Option Addr}{c3:Nat}{f0:ByteArray}{f1:Int}{f2:Value}{f3:List ByteArray}{f4:Bool}(h:W.heap[g]? =some (.cells #[.string f0,.int .i64 f1,f2,.slice A3 f3.length c3,.bool f4] 125 (0,0))):W.cell? ⟨g,3,none⟩=some (.slice A3 f3.length c3):=(aC h 3).trans rfl
theorem eH {W:World}{g:Nat}{A3:Option Addr}{c3:Nat}{f0:ByteArray}{f1:Int}{f2:Value}{f3:List ByteArray}{f4:Bool}(h:W.heap[g]? =some (.cells #[.string f0,.int .i64 f1,f2,.slice A3 f3.length c3,.bool f4] 125 (0,0))):W.cell? ⟨g,4,none⟩=some (.bool f4):=(aC h 4).trans rfl
theorem zs {w0 W:World}{g:Nat}{f0:ByteArray}{f1:Int}{f2:Value}{f3:List ByteArray}{f4:Bool}(h:bK w0 W g f0 f1 f2 f3 f4):∃A c,Kd.C Kd.string w0 A f3.length f3∧W.cell? ⟨g,0,none⟩=some (.string f0)∧W.cell? ⟨g,1,none⟩=some (.int .i64 f1)∧W.cell? ⟨g,2,none⟩=some f2∧W.cell? ⟨g,3,none⟩=some (.slice A f3.length c)∧W.cell? ⟨g,4,none⟩=some (.bool f4)∧W.frozen? ⟨g,0,none⟩=false∧W.frozen? ⟨g,1,none⟩=false∧W.frozen? ⟨g,2,none⟩=false∧W.frozen? ⟨g,4,none⟩=false:=
 let ⟨A,c,hb,_,hr⟩:=h;⟨A,c,hr,eX hb,dW hb,fK hb,fP hb,eH hb,aj hb 0,aj hb 1,aj hb 2,aj hb 4⟩
theorem bK.BL {w0 W:World}{g:Nat}{f0:ByteArray}{f1:Int}{f2:Value}{f3:List ByteArray}{f4:Bool}(h:bK w0 W g f0 f1 f2 f3 f4)(x:Bool):bK w0 (W.setCell ⟨g,4,none⟩ (.bool x)) g f0 f1 f2 f3 x:=by
 obtain ⟨A3,c3,hb,hg,hr3⟩:=h
 exact ⟨A3,c3,by simpa using fJ hb 4 (.bool x),hg,hr3⟩
def ay.f (s0_0:ByteArray)(s0_1:Int)(s0_2:Value)(s0_3:List ByteArray)(s0_4:Bool)(a1:Int):Option (Int × ByteArray × Int × Value × Bool):=if (wrap64 (s0_1+a1))≥(s0_0.size:Int) then (some (0,s0_0,s0_1,s0_2,s0_4)) else (if 0≤(wrap64 (s0_1+a1)) then (if (wrap64 (s0_1+a1))<(s0_0.size:Int) then (some (bt s0_0 (wrap64 (s0_1+a1)),s0_0,s0_1,s0_2,s0_4)) else (none)) else (none))
theorem ay.calls (g:Nat)(s0_0:ByteArray)(s0_1:Int)(s0_2:Value)(s0_3:List ByteArray)(s0_4:Bool)(a1:Int)(r1:Int)(r2:ByteArray)(r3:Int)(r4:Value)(r5:Bool)(w0 w:World)(hI:bK w0 w g s0_0 s0_1 s0_2 s0_3 s0_4)(hB:Below w0.heap.size w0 w)(h:ay.f s0_0 s0_1 s0_2 s0_3 s0_4 a1=some (r1,r2,r3,r4,r5)):
 Calls Tryz.prog 159 #[.pointer (some ⟨g,0,none⟩),.int .i64 a1] w fun e w'=>e= .returned (.int .u8 r1)∧bK w0 w' g r2 r3 r4 s0_3 r5∧Below w0.heap.size w0 w'∧aG w w' g none:=by
 have HI0:=z0 hI
 have HK:=z0 (aG.refl w g none)
 have HL:=z0 hB.size
 clear hI
 have HW0:=z0 hB.size
 have HB:=z0 hB
 clear hB
 have H:=h
 clear h
 unfold ay.f at H
 replace H:=zg H
 rcases H with ⟨c3b0,H⟩|⟨c3b0,H⟩
 · simp only [Option.some.injEq,Prod.mk.injEq] at H
   obtain ⟨rfl,rfl,rfl,rfl,rfl⟩:=H
   obtain ⟨ASz4_3,cSz4_3,HSz4_3,hcz4_0,hcz4_1,hcz4_2,hcz4_3,hcz4_4,hfz4_0,hfz4_1,hfz4_2,hfz4_4⟩:=zs HI0.out
   go_enter Tryz.func159,Tryz.ntmps159
   go_wp2
   repeat (go_quiet (fail);try go_wp2)
   go_ret
   exact ⟨zv,zi,zw,zk⟩
 · generalize hji5:(wrap64 (s0_1+a1))=ji5 at H
   (try rw [hji5] at c3b0)
   have hji5w:(IntKind.i64.wrap (s0_1+a1))=ji5:=(dZ _).trans hji5
   replace H:=zdn H
   obtain ⟨c6b0,H⟩:=H
   replace H:=zdn H
   obtain ⟨c7b0,H⟩:=H
   simp only [Option.some.injEq,Prod.mk.injEq] at H
   obtain ⟨rfl,rfl,rfl,rfl,rfl⟩:=H
   obtain ⟨ASz9_3,cSz9_3,HSz9_3,hcz9_0,hcz9_1,hcz9_2,hcz9_3,hcz9_4,hfz9_0,hfz9_1,hfz9_2,hfz9_4⟩:=zs HI0.out
   obtain ⟨p8,q8,hx8⟩:=zb s0_0 (ji5)
   go_enter Tryz.func159,Tryz.ntmps159
   go_wp2
   repeat (go_quiet (fail);try go_wp2)
   go_ret
   exact ⟨by first|rfl|(simp [errW_none,errW_some]<;>rfl)|(simp only [←hji5];first|rfl|(simp [errW_none,errW_some]<;>rfl))|(simp [*,errW_none,errW_some]<;>rfl),zi,zw,zk⟩
def dQ.f (s0_0:ByteArray)(s0_1:Int)(s0_2:Value)(s0_3:List ByteArray)(s0_4:Bool):Option (ByteArray × ByteArray × Int × Value × Bool):=if 0≤s0_1 then (if s0_1≤(s0_0.size:Int) then (some (s0_0.extract (s0_1:Int).toNat s0_0.size,s0_0,s0_1,s0_2,s0_4)) else (none)) else (none)
theorem dQ.calls (g:Nat)(s0_0:ByteArray)(s0_1:Int)(s0_2:Value)(s0_3:List ByteArray)(s0_4:Bool)(r1:ByteArray)(r2:ByteArray)(r3:Int)(r4:Value)(r5:Bool)(w0 w:World)(hI:bK w0 w g s0_0 s0_1 s0_2 s0_3 s0_4)(hB:Below w0.heap.size w0 w)(h:dQ.f s0_0 s0_1 s0_2 s0_3 s0_4=some (r1,r2,r3,r4,r5)):
 Calls Tryz.prog 161 #[.pointer (some ⟨g,0,none⟩)] w fun e w'=>e= .returned (.string r1)∧bK w0 w' g r2 r3 r4 s0_3 r5∧Below w0.heap.size w0 w'∧aG w w' g none:=by
 have HI0:=z0 hI
 have HK:=z0 (aG.refl w g none)
 have HL:=z0 hB.size
 clear hI
 have HW0:=z0 hB.size
 have HB:=z0 hB
 clear hB
 have H:=h
 clear h
 unfold dQ.f at H
 replace H:=zyn H
 obtain ⟨c2b0,c2b1,H⟩:=H
 replace H:=zyn H
 obtain ⟨c3b0,c3b1,H⟩:=H
 simp only [Option.some.injEq,Prod.mk.injEq] at H
 obtain ⟨rfl,rfl,rfl,rfl,rfl⟩:=H
 obtain ⟨ASz4_3,cSz4_3,HSz4_3,hcz4_0,hcz4_1,hcz4_2,hcz4_3,hcz4_4,hfz4_0,hfz4_1,hfz4_2,hfz4_4⟩:=zs HI0.out
 go_enter Tryz.func161,Tryz.ntmps161
 go_wp2
 repeat (go_quiet (fail);try go_wp2)
 go_ret
 exact ⟨zv,zi,zw,zk⟩
def dV.f (a0:Int):Option (Bool):=if a0≥97 then (if a0≤122 then (some true) else (if a0≥65 then (if a0≤90 then (some true) else (some (a0==95))) else (some (a0==95)))) else (if a0≥65 then (if a0≤90 then (some true) else (some (a0==95))) else (some (a0==95)))
theorem dV.calls (a0:Int)(r:Bool)(w:World)(h:dV.f a0=some r):
 Calls Tryz.prog 164 #[.int .u8 a0] w fun e w'=>e= .returned (.bool r)∧dM w w':=by
 have H:=h
 clear h
 unfold dV.f at H
 replace H:=zg H
 rcases H with ⟨c2b0,H⟩|⟨c2b0,H⟩
 · replace H:=zd H
   rcases H with ⟨c3b0,H⟩|⟨c3b0,H⟩
   · obtain rfl:=Option.some.inj H
     go_enter Tryz.func164,Tryz.ntmps164
     go_wp2
     go_ret
     exact ⟨zr,zq⟩
   · replace H:=zg H
     rcases H with ⟨c4b0,H⟩|⟨c4b0,H⟩
     · replace H:=zd H
       rcases H with ⟨c5b0,H⟩|⟨c5b0,H⟩
       · obtain rfl:=Option.some.inj H
         go_enter Tryz.func164,Tryz.ntmps164
         go_wp2
         go_ret
         exact ⟨zr,zq⟩
       · obtain rfl:=Option.some.inj H
         go_enter Tryz.func164,Tryz.ntmps164
         go_wp2
         go_ret
         exact ⟨zr,zq⟩
     · obtain rfl:=Option.some.inj H
       go_enter Tryz.func164,Tryz.ntmps164
       go_wp2
       go_ret
       exact ⟨zr,zq⟩
 · replace H:=zg H
   rcases H with ⟨c6b0,H⟩|⟨c6b0,H⟩
   · replace H:=zd H
     rcases H with ⟨c7b0,H⟩|⟨c7b0,H⟩
     · obtain rfl:=Option.some.inj H
       go_enter Tryz.func164,Tryz.ntmps164
       go_wp2
       go_ret
       exact ⟨zr,zq⟩
     · obtain rfl:=Option.some.inj H
       go_enter Tryz.func164,Tryz.ntmps164
       go_wp2
       go_ret
       exact ⟨zr,zq⟩
   · obtain rfl:=Option.some.inj H
     go_enter Tryz.func164,Tryz.ntmps164
     go_wp2
     go_ret
     exact ⟨zr,zq⟩
def eu.f (a0:Int):Option (Bool):=if a0≥48 then (some (decide (a0≤57))) else (some false)
theorem eu.calls (a0:Int)(r:Bool)(w:World)(h:eu.f a0=some r):
 Calls Tryz.prog 165 #[.int .u8 a0] w fun e w'=>e= .returned (.bool r)∧dM w w':=by
 have H:=h
 clear h
 unfold eu.f at H
 replace H:=zg H
 rcases H with ⟨c2b0,H⟩|⟨c2b0,H⟩
 · obtain rfl:=Option.some.inj H
   go_enter Tryz.func165,Tryz.ntmps165
   go_wp2
   go_ret
   exact ⟨zr,zq⟩
 · obtain rfl:=Option.some.inj H
   go_enter Tryz.func165,Tryz.ntmps165
   go_wp2
   go_ret
   exact ⟨zr,zq⟩
def dD.l0:Nat→Int→ByteArray→Int→Value→List ByteArray→Bool→Option (Int × ByteArray × Int × Value × Bool)
 |0,_,_,_,_,_,_=>none
 |k+1,x3,x1000,x1001,x1002,x1003,x1004=>(ay.f x1000 x1001 x1002 x1003 x1004 x3).bind fun bt107=>((dV.f bt107.1).bind fun t112=>(if t112=true then (dD.l0 k (wrap64 (x3+1)) bt107.2.1 bt107.2.2.1 bt107.2.2.2.1 x1003 bt107.2.2.2.2) else ((ay.f bt107.2.1 bt107.2.2.1 bt107.2.2.2.1 x1003 bt107.2.2.2.2 x3).bind fun bt113=>((eu.f bt113.1).bind fun t118=>(if t118=true then (dD.l0 k (wrap64 (x3+1)) bt113.2.1 bt113.2.2.1 bt113.2.2.2.1 x1003 bt113.2.2.2.2) else (some (x3,bt113.2.1,bt113.2.2.1,bt113.2.2.2.1,bt113.2.2.2.2)))))))
def dD.f (k:Nat)(s0_0:ByteArray)(s0_1:Int)(s0_2:Value)(s0_3:List ByteArray)(s0_4:Bool):Option (Int × ByteArray × Int × Value × Bool):=(ay.f s0_0 s0_1 s0_2 s0_3 s0_4 0).bind fun bt101=>((dV.f bt101.1).bind fun t106=>(if t106=true then (dD.l0 k 0 bt101.2.1 bt101.2.2.1 bt101.2.2.2.1 s0_3 bt101.2.2.2.2) else (some (0,bt101.2.1,bt101.2.2.1,bt101.2.2.2.1,bt101.2.2.2.2))))
theorem dD.calls (k:Nat)(g:Nat)(s0_0:ByteArray)(s0_1:Int)(s0_2:Value)(s0_3:List ByteArray)(s0_4:Bool)(r1:Int)(r2:ByteArray)(r3:Int)(r4:Value)(r5:Bool)(w0 w:World)(hI:bK w0 w g s0_0 s0_1 s0_2 s0_3 s0_4)(hB:Below w0.heap.size w0 w)(h:dD.f k s0_0 s0_1 s0_2 s0_3 s0_4=some (r1,r2,r3,r4,r5)):
 Calls Tryz.prog 120 #[.pointer (some ⟨g,0,none⟩)] w fun e w'=>e= .returned (.int .i64 r1)∧bK w0 w' g r2 r3 r4 s0_3 r5∧Below w0.heap.size w0 w'∧aG w w' g none:=by
 have HI0:=z0 hI
 have HK:=z0 (aG.refl w g none)
 have HL:=z0 hB.size
 clear hI
 have HW0:=z0 hB.size
 have HB:=z0 hB
 clear hB
 have H:=h
 clear h
 unfold dD.f at H
 replace H:=zo H
 obtain ⟨⟨t101,t102,t103,t104,t105⟩,A2,H⟩:=H
 (try dsimp only at H)
 replace H:=zo H
 obtain ⟨t106,A3,H⟩:=H
 (try dsimp only at H)
 by_cases c4:t106=true
 · subst c4
   rw [if_pos rfl] at H
   have H':=z0 H
   clear H
   go_enter Tryz.func120,Tryz.ntmps120
   go_wp2_with (first|(refine zc 5 rfl Tryz.func159 #[.pointer (some ⟨g,0,none⟩),.int .i64 0] ?_;refine zj (ay.calls g s0_0 s0_1 s0_2 s0_3 s0_4 0 t101 t102 t103 t104 t105 w0 _ zi zw A2.out) zk ?_;clear HK HB HI0;intro w5 HK HB HI0)|(refine zc 6 rfl Tryz.func164 #[.int .u8 t101] ?_;refine za (dV.calls t101 true _ A3.out) fun nd=> ?_))
   try go_simp
   go_loopg [3] k (fun kq v3 w'=>∃(x3_1:Int) (x1000_1:ByteArray) (x1001_1:Int) (x1002_1:Value) (x1004_1:Bool),v3= .int .i64 x3_1∧ah (dD.l0 kq x3_1 x1000_1 x1001_1 x1002_1 s0_3 x1004_1=some (r1,r2,r3,r4,r5))∧ah (kq≤k)∧ah (bK w0 w' g x1000_1 x1001_1 x1002_1 s0_3 x1004_1)∧ah (aG w w' g none)∧ah (Below w0.heap.size w0 w'))
   case atStart=>exact ⟨(0),(t102),(t103),(t104),(t105),zr,H',⟨Nat.le_refl _⟩,⟨zi⟩,⟨zk⟩,⟨zw⟩⟩
   case round=>
    clear H'
    obtain ⟨x3_1,x1000_1,x1001_1,x1002_1,x1004_1,rfl,HA,HK1,HI0,HK,HB⟩:=hrel
    cases gk with
    |zero=>exact absurd HA.out (by simp [dD.l0])
    |succ k1=>
     have H:=HA.out
     clear HA
     simp only [dD.l0] at H
     replace H:=zo H
     obtain ⟨⟨t107,t108,t109,t110,t111⟩,A6,H⟩:=H
     (try dsimp only at H)
     replace H:=zo H
     obtain ⟨t112,A7,H⟩:=H
     (try dsimp only at H)
     by_cases c8:t112=true
     · subst c8
       rw [if_pos rfl] at H
       have H':=z0 H
       clear H
       go_wp2_with (first|(refine zc 9 rfl Tryz.func159 #[.pointer (some ⟨g,0,none⟩),.int .i64 x3_1] ?_;refine zj (ay.calls g x1000_1 x1001_1 x1002_1 s0_3 x1004_1 x3_1 t107 t108 t109 t110 t111 w0 _ zi zw A6.out) zk ?_;clear HK HB HI0;intro w9 HK HB HI0)|(refine zc 10 rfl Tryz.func164 #[.int .u8 t107] ?_;refine za (dV.calls t107 true _ A7.out) fun nd=> ?_))
       go_roundg k1
       case measure=>have:=HK1.out;omega
       case rel=>exact ⟨(wrap64 (x3_1+1)),(t108),(t109),(t110),(t111),zr,H',⟨by have:=HK1.out;omega⟩,⟨zi⟩,⟨zk⟩,⟨zw⟩⟩
     · replace c8:=Bool.eq_false_iff.mpr c8
       subst c8
       rw [if_neg nofun] at H
       replace H:=zo H
       obtain ⟨⟨t113,t114,t115,t116,t117⟩,A10,H⟩:=H
       (try dsimp only at H)
       replace H:=zo H
       obtain ⟨t118,A11,H⟩:=H
       (try dsimp only at H)
       by_cases c12:t118=true
       · subst c12
         rw [if_pos rfl] at H
         have H':=z0 H
         clear H
         go_wp2_with (first|(refine zc 9 rfl Tryz.func159 #[.pointer (some ⟨g,0,none⟩),.int .i64 x3_1] ?_;refine zj (ay.calls g x1000_1 x1001_1 x1002_1 s0_3 x1004_1 x3_1 t107 t108 t109 t110 t111 w0 _ zi zw A6.out) zk ?_;clear HK HB HI0;intro w13 HK HB HI0)|(refine zc 10 rfl Tryz.func164 #[.int .u8 t107] ?_;refine za (dV.calls t107 false _ A7.out) fun nd=> ?_)|(go_at_call 159;(with_reducible refine (ay.calls g t108 t109 t110 s0_3 t111 x3_1 t113 t114 t115 t116 t117 w0 _ ?side1 ?side2 A10.out).mono ?_);(case side1=>exact zi);(case side2=>exact zw);rintro e w14 ⟨rfl,hi,hb,hk⟩;have n0_:=z0 (aG.trans zk hk (.inl rfl));have n1_:=z0 (hb);have n2_:=z0 (hi);revert n0_ n1_ n2_;clear HK HB HI0;intro HK HB HI0;(try clear hb);(try clear hk);(try clear hi))|(go_at_call 165;(with_reducible refine (eu.calls t113 true _ A11.out).mono ?_);rintro e w' ⟨rfl,⟨nd,rfl⟩⟩))
         go_roundg k1
         case measure=>have:=HK1.out;omega
         case rel=>exact ⟨(wrap64 (x3_1+1)),(t114),(t115),(t116),(t117),zr,H',⟨by have:=HK1.out;omega⟩,⟨zi⟩,⟨zk⟩,⟨zw⟩⟩
       · replace c12:=Bool.eq_false_iff.mpr c12
         subst c12
         rw [if_neg nofun] at H
         simp only [Option.some.injEq,Prod.mk.injEq] at H
         obtain ⟨rfl,rfl,rfl,rfl,rfl⟩:=H
         go_wp2_with (first|(refine zc 9 rfl Tryz.func159 #[.pointer (some ⟨g,0,none⟩),.int .i64 x3_1] ?_;refine zj (ay.calls g x1000_1 x1001_1 x1002_1 s0_3 x1004_1 x3_1 t107 t108 t109 t110 t111 w0 _ zi zw A6.out) zk ?_;clear HK HB HI0;intro w15 HK HB HI0)|(refine zc 10 rfl Tryz.func164 #[.int .u8 t107] ?_;refine za (dV.calls t107 false _ A7.out) fun nd=> ?_)|(go_at_call 159;(with_reducible refine (ay.calls g t108 t109 t110 s0_3 t111 x3_1 t113 t114 t115 t116 t117 w0 _ ?side1 ?side2 A10.out).mono ?_);(case side1=>exact zi);(case side2=>exact zw);rintro e w16 ⟨rfl,hi,hb,hk⟩;have n0_:=z0 (aG.trans zk hk (.inl rfl));have n1_:=z0 (hb);have n2_:=z0 (hi);revert n0_ n1_ n2_;clear HK HB HI0;intro HK HB HI0;(try clear hb);(try clear hk);(try clear hi))|(go_at_call 165;(with_reducible refine (eu.calls t113 false _ A11.out).mono ?_);rintro e w' ⟨rfl,⟨nd,rfl⟩⟩))
         go_ret
         exact ⟨zv,zi,zw,zk⟩
 · replace c4:=Bool.eq_false_iff.mpr c4
   subst c4
   rw [if_neg nofun] at H
   simp only [Option.some.injEq,Prod.mk.injEq] at H
   obtain ⟨rfl,rfl,rfl,rfl,rfl⟩:=H
   go_enter Tryz.func120,Tryz.ntmps120
   go_wp2_with (first|(refine zc 5 rfl Tryz.func159 #[.pointer (some ⟨g,0,none⟩),.int .i64 0] ?_;refine zj (ay.calls g s0_0 s0_1 s0_2 s0_3 s0_4 0 t101 t102 t103 t104 t105 w0 _ zi zw A2.out) zk ?_;clear HK HB HI0;intro w17 HK HB HI0)|(refine zc 6 rfl Tryz.func164 #[.int .u8 t101] ?_;refine za (dV.calls t101 false _ A3.out) fun nd=> ?_))
   go_ret
   exact ⟨zv,zi,zw,zk⟩
mutual
def aN.j0:Nat→Bool→ByteArray→Int→Value→List ByteArray→Bool→Option (Int × ByteArray × Int × Value × Bool)
 |0,_,_,_,_,_,_=>none
 |k+1,x20,x1000,x1001,x1002,x1003,x1004=>if x20=true then (some (0,x1000,x1001,x1002,x1004)) else (aN.l0 k 1 x1000 x1001 x1002 x1003 x1004)
def aN.l0:Nat→Int→ByteArray→Int→Value→List ByteArray→Bool→Option (Int × ByteArray × Int × Value × Bool)
 |0,_,_,_,_,_,_=>none
 |k+1,x3,x1000,x1001,x1002,x1003,x1004=>(ay.f x1000 x1001 x1002 x1003 x1004 x3).bind fun bt136=>((ay.f bt136.2.1 bt136.2.2.1 bt136.2.2.2.1 x1003 bt136.2.2.2.2 (wrap64 (x3-1))).bind fun bt141=>((dV.f bt136.1).bind fun t146=>(if t146=true then (aN.l0 k (wrap64 (x3+1)) bt141.2.1 bt141.2.2.1 bt141.2.2.2.1 x1003 bt141.2.2.2.2) else ((eu.f bt136.1).bind fun t147=>(if t147=true then (aN.l0 k (wrap64 (x3+1)) bt141.2.1 bt141.2.2.1 bt141.2.2.2.1 x1003 bt141.2.2.2.2) else (if bt136.1=46 then (aN.l0 k (wrap64 (x3+1)) bt141.2.1 bt141.2.2.1 bt141.2.2.2.1 x1003 bt141.2.2.2.2) else (if bt136.1=43 then (if bt141.1=101 then (aN.l0 k (wrap64 (x3+1)) bt141.2.1 bt141.2.2.1 bt141.2.2.2.1 x1003 bt141.2.2.2.2) else (if bt141.1=69 then (aN.l0 k (wrap64 (x3+1)) bt141.2.1 bt141.2.2.1 bt141.2.2.2.1 x1003 bt141.2.2.2.2) else (some (x3,bt141.2.1,bt141.2.2.1,bt141.2.2.2.1,bt141.2.2.2.2)))) else (if bt136.1=45 then (if bt141.1=101 then (aN.l0 k (wrap64 (x3+1)) bt141.2.1 bt141.2.2.1 bt141.2.2.2.1 x1003 bt141.2.2.2.2) else (if bt141.1=69 then (aN.l0 k (wrap64 (x3+1)) bt141.2.1 bt141.2.2.1 bt141.2.2.2.1 x1003 bt141.2.2.2.2) else (some (x3,bt141.2.1,bt141.2.2.1,bt141.2.2.2.1,bt141.2.2.2.2)))) else (some (x3,bt141.2.1,bt141.2.2.1,bt141.2.2.2.1,bt141.2.2.2.2))))))))))
end
def aN.f (k:Nat)(s0_0:ByteArray)(s0_1:Int)(s0_2:Value)(s0_3:List ByteArray)(s0_4:Bool):Option (Int × ByteArray × Int × Value × Bool):=(ay.f s0_0 s0_1 s0_2 s0_3 s0_4 0).bind fun bt119=>((eu.f bt119.1).bind fun t124=>(if t124=true then (aN.j0 k false bt119.2.1 bt119.2.2.1 bt119.2.2.2.1 s0_3 bt119.2.2.2.2) else ((ay.f bt119.2.1 bt119.2.2.1 bt119.2.2.2.1 s0_3 bt119.2.2.2.2 0).bind fun bt125=>(if bt125.1=46 then ((ay.f bt125.2.1 bt125.2.2.1 bt125.2.2.2.1 s0_3 bt125.2.2.2.2 1).bind fun bt130=>((eu.f bt130.1).bind fun t135=>(aN.j0 k (!t135) bt130.2.1 bt130.2.2.1 bt130.2.2.2.1 s0_3 bt130.2.2.2.2))) else (aN.j0 k true bt125.2.1 bt125.2.2.1 bt125.2.2.2.1 s0_3 bt125.2.2.2.2)))))
theorem aN.calls (k:Nat)(g:Nat)(s0_0:ByteArray)(s0_1:Int)(s0_2:Value)(s0_3:List ByteArray)(s0_4:Bool)(r1:Int)(r2:ByteArray)(r3:Int)(r4:Value)(r5:Bool)(w0 w:World)(hI:bK w0 w g s0_0 s0_1 s0_2 s0_3 s0_4)(hB:Below w0.heap.size w0 w)(h:aN.f k s0_0 s0_1 s0_2 s0_3 s0_4=some (r1,r2,r3,r4,r5)):
 Calls Tryz.prog 121 #[.pointer (some ⟨g,0,none⟩)] w fun e w'=>e= .returned (.int .i64 r1)∧bK w0 w' g r2 r3 r4 s0_3 r5∧Below w0.heap.size w0 w'∧aG w w' g none:=by
 have HI0:=z0 hI
 have HK:=z0 (aG.refl w g none)
 have HL:=z0 hB.size
 clear hI
 have HW0:=z0 hB.size
 have HB:=z0 hB
 clear hB
 have H:=h
 clear h
 unfold aN.f at H
 have HC2:=z0 H
 clear H
 go_enter Tryz.func121,Tryz.ntmps121
 go_upto_region 1 with (fail)
 go_cut [20] (fun v20 wc=>∃(kq:Nat) (x20_1:Bool) (x1000_1:ByteArray) (x1001_1:Int) (x1002_1:Value) (x1004_1:Bool),v20= .bool x20_1∧ah (aN.j0 kq x20_1 x1000_1 x1001_1 x1002_1 s0_3 x1004_1=some (r1,r2,r3,r4,r5))∧ah (kq≤k)∧ah (bK w0 wc g x1000_1 x1001_1 x1002_1 s0_3 x1004_1)∧ah (aG w wc g none)∧ah (Below w0.heap.size w0 wc))
 case first=>
  have H:=HC2.out
  clear HC2
  replace H:=zo H
  obtain ⟨⟨t119,t120,t121,t122,t123⟩,A3,H⟩:=H
  (try dsimp only at H)
  replace H:=zo H
  obtain ⟨t124,A4,H⟩:=H
  (try dsimp only at H)
  by_cases c5:t124=true
  · subst c5
    rw [if_pos rfl] at H
    have H':=z0 H
    clear H
    go_wp2_with (first|(refine zc 7 rfl Tryz.func159 #[.pointer (some ⟨g,0,none⟩),.int .i64 0] ?_;refine zj (ay.calls g s0_0 s0_1 s0_2 s0_3 s0_4 0 t119 t120 t121 t122 t123 w0 _ zi zw A3.out) zk ?_;clear HK HB HI0;intro w6 HK HB HI0)|(refine zc 8 rfl Tryz.func165 #[.int .u8 t119] ?_;refine za (eu.calls t119 true _ A4.out) fun nd=> ?_))
    go_meet
    case rel=>exact ⟨_,(false),(t120),(t121),(t122),(t123),zr,H',⟨by first|omega|exact Nat.le_refl _⟩,⟨zi⟩,⟨zk⟩,⟨zw⟩⟩
  · replace c5:=Bool.eq_false_iff.mpr c5
    subst c5
    rw [if_neg nofun] at H
    replace H:=zo H
    obtain ⟨⟨t125,t126,t127,t128,t129⟩,A7,H⟩:=H
    (try dsimp only at H)
    replace H:=ze H
    rcases H with ⟨c8b0,c8b1,H⟩|⟨c8b0,c8b1,H⟩
    · (first|rw [c8b0]|(simp only [dZ,fG];rw [c8b0])|skip)
      replace H:=zo H
      obtain ⟨⟨t130,t131,t132,t133,t134⟩,A9,H⟩:=H
      (try dsimp only at H)
      replace H:=zo H
      obtain ⟨t135,A10,H⟩:=H
      (try dsimp only at H)
      have H':=z0 H
      clear H
      go_wp2_with (first|(refine zc 7 rfl Tryz.func159 #[.pointer (some ⟨g,0,none⟩),.int .i64 0] ?_;refine zj (ay.calls g s0_0 s0_1 s0_2 s0_3 s0_4 0 t119 t120 t121 t122 t123 w0 _ zi zw A3.out) zk ?_;clear HK HB HI0;intro w11 HK HB HI0)|(refine zc 8 rfl Tryz.func165 #[.int .u8 t119] ?_;refine za (eu.calls t119 false _ A4.out) fun nd=> ?_)|(go_at_call 159;(with_reducible refine (ay.calls g t120 t121 t122 s0_3 t123 0 t125 t126 t127 t128 t129 w0 _ ?side1 ?side2 A7.out).mono ?_);(case side1=>exact zi);(case side2=>exact zw);rintro e w12 ⟨rfl,hi,hb,hk⟩;have n0_:=z0 (aG.trans zk hk (.inl rfl));have n1_:=z0 (hb);have n2_:=z0 (hi);revert n0_ n1_ n2_;clear HK HB HI0;intro HK HB HI0;(try clear hb);(try clear hk);(try clear hi))|(go_at_call 159;(with_reducible refine (ay.calls g t126 t127 t128 s0_3 t129 1 t130 t131 t132 t133 t134 w0 _ ?side1 ?side2 A9.out).mono ?_);(case side1=>exact zi);(case side2=>exact zw);rintro e w13 ⟨rfl,hi,hb,hk⟩;have n0_:=z0 (aG.trans zk hk (.inl rfl));have n1_:=z0 (hb);have n2_:=z0 (hi);revert n0_ n1_ n2_;clear HK HB HI0;intro HK HB HI0;(try clear hb);(try clear hk);(try clear hi))|(go_at_call 165;(with_reducible refine (eu.calls t130 t135 _ A10.out).mono ?_);rintro e w' ⟨rfl,⟨nd,rfl⟩⟩))
      go_meet
      case rel=>exact ⟨_,(!t135),(t131),(t132),(t133),(t134),zr,H',⟨by first|omega|exact Nat.le_refl _⟩,⟨zi⟩,⟨zk⟩,⟨zw⟩⟩
    · (first|rw [c8b0]|(simp only [dZ,fG];rw [c8b0])|skip)
      have H':=z0 H
      clear H
      go_wp2_with (first|(refine zc 7 rfl Tryz.func159 #[.pointer (some ⟨g,0,none⟩),.int .i64 0] ?_;refine zj (ay.calls g s0_0 s0_1 s0_2 s0_3 s0_4 0 t119 t120 t121 t122 t123 w0 _ zi zw A3.out) zk ?_;clear HK HB HI0;intro w14 HK HB HI0)|(refine zc 8 rfl Tryz.func165 #[.int .u8 t119] ?_;refine za (eu.calls t119 false _ A4.out) fun nd=> ?_)|(go_at_call 159;(with_reducible refine (ay.calls g t120 t121 t122 s0_3 t123 0 t125 t126 t127 t128 t129 w0 _ ?side1 ?side2 A7.out).mono ?_);(case side1=>exact zi);(case side2=>exact zw);rintro e w15 ⟨rfl,hi,hb,hk⟩;have n0_:=z0 (aG.trans zk hk (.inl rfl));have n1_:=z0 (hb);have n2_:=z0 (hi);revert n0_ n1_ n2_;clear HK HB HI0;intro HK HB HI0;(try clear hb);(try clear hk);(try clear hi)))
      go_meet
      case rel=>exact ⟨_,(true),(t126),(t127),(t128),(t129),zr,H',⟨by first|omega|exact Nat.le_refl _⟩,⟨zi⟩,⟨zk⟩,⟨zw⟩⟩
 case rest=>
  clear HC2
  obtain ⟨kq,x20_1,x1000_1,x1001_1,x1002_1,x1004_1,rfl,HA,HJ1,HI0,HK,HB⟩:=hcut
  cases kq with
  |zero=>exact absurd HA.out (by simp [aN.j0])
  |succ kj1=>
   have H:=HA.out
   clear HA
   simp only [aN.j0] at H
   by_cases c16:x20_1=true
   · subst c16
     rw [if_pos rfl] at H
     simp only [Option.some.injEq,Prod.mk.injEq] at H
     obtain ⟨rfl,rfl,rfl,rfl,rfl⟩:=H
     go_wp2
     go_ret
     exact ⟨zv,zi,zw,zk⟩
   · replace c16:=Bool.eq_false_iff.mpr c16
     subst c16
     rw [if_neg nofun] at H
     have H':=z0 H
     clear H
     go_wp2
     try go_simp
     go_loopg [3] kj1 (fun kq v3 w'=>∃(x3_2:Int) (x1000_2:ByteArray) (x1001_2:Int) (x1002_2:Value) (x1004_2:Bool),v3= .int .i64 x3_2∧ah (aN.l0 kq x3_2 x1000_2 x1001_2 x1002_2 s0_3 x1004_2=some (r1,r2,r3,r4,r5))∧ah (kq≤kj1)∧ah (bK w0 w' g x1000_2 x1001_2 x1002_2 s0_3 x1004_2)∧ah (aG w w' g none)∧ah (Below w0.heap.size w0 w'))
     case atStart=>exact ⟨(1),(x1000_1),(x1001_1),(x1002_1),(x1004_1),zr,H',⟨Nat.le_refl _⟩,⟨zi⟩,⟨zk⟩,⟨zw⟩⟩
     case round=>
      clear H'
      obtain ⟨x3_2,x1000_2,x1001_2,x1002_2,x1004_2,rfl,HA,HK2,HI0,HK,HB⟩:=hrel
      cases gk with
      |zero=>exact absurd HA.out (by simp [aN.l0])
      |succ k2=>
       have H:=HA.out
       clear HA
       simp only [aN.l0] at H
       replace H:=zo H
       obtain ⟨⟨t136,t137,t138,t139,t140⟩,A17,H⟩:=H
       (try dsimp only at H)
       replace H:=zo H
       obtain ⟨⟨t141,t142,t143,t144,t145⟩,A18,H⟩:=H
       (try dsimp only at H)
       replace H:=zo H
       obtain ⟨t146,A19,H⟩:=H
       (try dsimp only at H)
       by_cases c20:t146=true
       · subst c20
         rw [if_pos rfl] at H
         have H':=z0 H
         clear H
         go_wp2_with (first|(refine zc 23 rfl Tryz.func159 #[.pointer (some ⟨g,0,none⟩),.int .i64 x3_2] ?_;refine zj (ay.calls g x1000_2 x1001_2 x1002_2 s0_3 x1004_2 x3_2 t136 t137 t138 t139 t140 w0 _ zi zw A17.out) zk ?_;clear HK HB HI0;intro w21 HK HB HI0)|(refine zc 27 rfl Tryz.func159 #[.pointer (some ⟨g,0,none⟩),.int .i64 (wrap64 (x3_2-1))] ?_;refine zj (ay.calls g t137 t138 t139 s0_3 t140 (wrap64 (x3_2-1)) t141 t142 t143 t144 t145 w0 _ zi zw A18.out) zk ?_;clear HK HB HI0;intro w22 HK HB HI0)|(refine zc 29 rfl Tryz.func164 #[.int .u8 t136] ?_;refine za (dV.calls t136 true _ A19.out) fun nd=> ?_))
         go_roundg k2
         case measure=>have:=HJ1.out;have:=HK2.out;omega
         case rel=>exact ⟨(wrap64 (x3_2+1)),(t142),(t143),(t144),(t145),zr,H',⟨by have:=HJ1.out;have:=HK2.out;omega⟩,⟨zi⟩,⟨zk⟩,⟨zw⟩⟩
       · replace c20:=Bool.eq_false_iff.mpr c20
         subst c20
         rw [if_neg nofun] at H
         replace H:=zo H
         obtain ⟨t147,A23,H⟩:=H
         (try dsimp only at H)
         by_cases c24:t147=true
         · subst c24
           rw [if_pos rfl] at H
           have H':=z0 H
           clear H
           go_wp2_with (first|(refine zc 23 rfl Tryz.func159 #[.pointer (some ⟨g,0,none⟩),.int .i64 x3_2] ?_;refine zj (ay.calls g x1000_2 x1001_2 x1002_2 s0_3 x1004_2 x3_2 t136 t137 t138 t139 t140 w0 _ zi zw A17.out) zk ?_;clear HK HB HI0;intro w25 HK HB HI0)|(refine zc 27 rfl Tryz.func159 #[.pointer (some ⟨g,0,none⟩),.int .i64 (wrap64 (x3_2-1))] ?_;refine zj (ay.calls g t137 t138 t139 s0_3 t140 (wrap64 (x3_2-1)) t141 t142 t143 t144 t145 w0 _ zi zw A18.out) zk ?_;clear HK HB HI0;intro w26 HK HB HI0)|(refine zc 29 rfl Tryz.func164 #[.int .u8 t136] ?_;refine za (dV.calls t136 false _ A19.out) fun nd=> ?_)|(go_at_call 165;(with_reducible refine (eu.calls t136 true _ A23.out).mono ?_);rintro e w' ⟨rfl,⟨nd,rfl⟩⟩))
           go_roundg k2
           case measure=>have:=HJ1.out;have:=HK2.out;omega
           case rel=>exact ⟨(wrap64 (x3_2+1)),(t142),(t143),(t144),(t145),zr,H',⟨by have:=HJ1.out;have:=HK2.out;omega⟩,⟨zi⟩,⟨zk⟩,⟨zw⟩⟩
         · replace c24:=Bool.eq_false_iff.mpr c24
           subst c24
           rw [if_neg nofun] at H
           replace H:=ze H
           rcases H with ⟨c27b0,c27b1,H⟩|⟨c27b0,c27b1,H⟩
           · have H':=z0 H
             clear H
             go_wp2_with (first|(refine zc 23 rfl Tryz.func159 #[.pointer (some ⟨g,0,none⟩),.int .i64 x3_2] ?_;refine zj (ay.calls g x1000_2 x1001_2 x1002_2 s0_3 x1004_2 x3_2 t136 t137 t138 t139 t140 w0 _ zi zw A17.out) zk ?_;clear HK HB HI0;intro w28 HK HB HI0)|(refine zc 27 rfl Tryz.func159 #[.pointer (some ⟨g,0,none⟩),.int .i64 (wrap64 (x3_2-1))] ?_;refine zj (ay.calls g t137 t138 t139 s0_3 t140 (wrap64 (x3_2-1)) t141 t142 t143 t144 t145 w0 _ zi zw A18.out) zk ?_;clear HK HB HI0;intro w29 HK HB HI0)|(refine zc 29 rfl Tryz.func164 #[.int .u8 t136] ?_;refine za (dV.calls t136 false _ A19.out) fun nd=> ?_)|(go_at_call 165;(with_reducible refine (eu.calls t136 false _ A23.out).mono ?_);rintro e w' ⟨rfl,⟨nd,rfl⟩⟩))
             go_roundg k2
             case measure=>have:=HJ1.out;have:=HK2.out;omega
             case rel=>exact ⟨(wrap64 (x3_2+1)),(t142),(t143),(t144),(t145),zr,H',⟨by have:=HJ1.out;have:=HK2.out;omega⟩,⟨zi⟩,⟨zk⟩,⟨zw⟩⟩
           · replace H:=ze H
             rcases H with ⟨c30b0,c30b1,H⟩|⟨c30b0,c30b1,H⟩
             · replace H:=ze H
               rcases H with ⟨c31b0,c31b1,H⟩|⟨c31b0,c31b1,H⟩
               · have H':=z0 H
                 clear H
                 go_wp2_with (first|(refine zc 23 rfl Tryz.func159 #[.pointer (some ⟨g,0,none⟩),.int .i64 x3_2] ?_;refine zj (ay.calls g x1000_2 x1001_2 x1002_2 s0_3 x1004_2 x3_2 t136 t137 t138 t139 t140 w0 _ zi zw A17.out) zk ?_;clear HK HB HI0;intro w32 HK HB HI0)|(refine zc 27 rfl Tryz.func159 #[.pointer (some ⟨g,0,none⟩),.int .i64 (wrap64 (x3_2-1))] ?_;refine zj (ay.calls g t137 t138 t139 s0_3 t140 (wrap64 (x3_2-1)) t141 t142 t143 t144 t145 w0 _ zi zw A18.out) zk ?_;clear HK HB HI0;intro w33 HK HB HI0)|(refine zc 29 rfl Tryz.func164 #[.int .u8 t136] ?_;refine za (dV.calls t136 false _ A19.out) fun nd=> ?_)|(go_at_call 165;(with_reducible refine (eu.calls t136 false _ A23.out).mono ?_);rintro e w' ⟨rfl,⟨nd,rfl⟩⟩))
                 go_roundg k2
                 case measure=>have:=HJ1.out;have:=HK2.out;omega
                 case rel=>exact ⟨(wrap64 (x3_2+1)),(t142),(t143),(t144),(t145),zr,H',⟨by have:=HJ1.out;have:=HK2.out;omega⟩,⟨zi⟩,⟨zk⟩,⟨zw⟩⟩
               · replace H:=ze H
                 rcases H with ⟨c34b0,c34b1,H⟩|⟨c34b0,c34b1,H⟩
                 · have H':=z0 H
                   clear H
                   go_wp2_with (first|(refine zc 23 rfl Tryz.func159 #[.pointer (some ⟨g,0,none⟩),.int .i64 x3_2] ?_;refine zj (ay.calls g x1000_2 x1001_2 x1002_2 s0_3 x1004_2 x3_2 t136 t137 t138 t139 t140 w0 _ zi zw A17.out) zk ?_;clear HK HB HI0;intro w35 HK HB HI0)|(refine zc 27 rfl Tryz.func159 #[.pointer (some ⟨g,0,none⟩),.int .i64 (wrap64 (x3_2-1))] ?_;refine zj (ay.calls g t137 t138 t139 s0_3 t140 (wrap64 (x3_2-1)) t141 t142 t143 t144 t145 w0 _ zi zw A18.out) zk ?_;clear HK HB HI0;intro w36 HK HB HI0)|(refine zc 29 rfl Tryz.func164 #[.int .u8 t136] ?_;refine za (dV.calls t136 false _ A19.out) fun nd=> ?_)|(go_at_call 165;(with_reducible refine (eu.calls t136 false _ A23.out).mono ?_);rintro e w' ⟨rfl,⟨nd,rfl⟩⟩))
                   go_roundg k2
                   case measure=>have:=HJ1.out;have:=HK2.out;omega
                   case rel=>exact ⟨(wrap64 (x3_2+1)),(t142),(t143),(t144),(t145),zr,H',⟨by have:=HJ1.out;have:=HK2.out;omega⟩,⟨zi⟩,⟨zk⟩,⟨zw⟩⟩
                 · simp only [Option.some.injEq,Prod.mk.injEq] at H
                   obtain ⟨rfl,rfl,rfl,rfl,rfl⟩:=H
                   go_wp2_with (first|(refine zc 23 rfl Tryz.func159 #[.pointer (some ⟨g,0,none⟩),.int .i64 x3_2] ?_;refine zj (ay.calls g x1000_2 x1001_2 x1002_2 s0_3 x1004_2 x3_2 t136 t137 t138 t139 t140 w0 _ zi zw A17.out) zk ?_;clear HK HB HI0;intro w37 HK HB HI0)|(refine zc 27 rfl Tryz.func159 #[.pointer (some ⟨g,0,none⟩),.int .i64 (wrap64 (x3_2-1))] ?_;refine zj (ay.calls g t137 t138 t139 s0_3 t140 (wrap64 (x3_2-1)) t141 t142 t143 t144 t145 w0 _ zi zw A18.out) zk ?_;clear HK HB HI0;intro w38 HK HB HI0)|(refine zc 29 rfl Tryz.func164 #[.int .u8 t136] ?_;refine za (dV.calls t136 false _ A19.out) fun nd=> ?_)|(go_at_call 165;(with_reducible refine (eu.calls t136 false _ A23.out).mono ?_);rintro e w' ⟨rfl,⟨nd,rfl⟩⟩))
                   go_ret
                   exact ⟨zv,zi,zw,zk⟩
             · replace H:=ze H
               rcases H with ⟨c39b0,c39b1,H⟩|⟨c39b0,c39b1,H⟩
               · replace H:=ze H
                 rcases H with ⟨c40b0,c40b1,H⟩|⟨c40b0,c40b1,H⟩
                 · have H':=z0 H
                   clear H
                   go_wp2_with (first|(refine zc 23 rfl Tryz.func159 #[.pointer (some ⟨g,0,none⟩),.int .i64 x3_2] ?_;refine zj (ay.calls g x1000_2 x1001_2 x1002_2 s0_3 x1004_2 x3_2 t136 t137 t138 t139 t140 w0 _ zi zw A17.out) zk ?_;clear HK HB HI0;intro w41 HK HB HI0)|(refine zc 27 rfl Tryz.func159 #[.pointer (some ⟨g,0,none⟩),.int .i64 (wrap64 (x3_2-1))] ?_;refine zj (ay.calls g t137 t138 t139 s0_3 t140 (wrap64 (x3_2-1)) t141 t142 t143 t144 t145 w0 _ zi zw A18.out) zk ?_;clear HK HB HI0;intro w42 HK HB HI0)|(refine zc 29 rfl Tryz.func164 #[.int .u8 t136] ?_;refine za (dV.calls t136 false _ A19.out) fun nd=> ?_)|(go_at_call 165;(with_reducible refine (eu.calls t136 false _ A23.out).mono ?_);rintro e w' ⟨rfl,⟨nd,rfl⟩⟩))
                   go_roundg k2
                   case measure=>have:=HJ1.out;have:=HK2.out;omega
                   case rel=>exact ⟨(wrap64 (x3_2+1)),(t142),(t143),(t144),(t145),zr,H',⟨by have:=HJ1.out;have:=HK2.out;omega⟩,⟨zi⟩,⟨zk⟩,⟨zw⟩⟩
                 · replace H:=ze H
                   rcases H with ⟨c43b0,c43b1,H⟩|⟨c43b0,c43b1,H⟩
                   · have H':=z0 H
                     clear H
                     go_wp2_with (first|(refine zc 23 rfl Tryz.func159 #[.pointer (some ⟨g,0,none⟩),.int .i64 x3_2] ?_;refine zj (ay.calls g x1000_2 x1001_2 x1002_2 s0_3 x1004_2 x3_2 t136 t137 t138 t139 t140 w0 _ zi zw A17.out) zk ?_;clear HK HB HI0;intro w44 HK HB HI0)|(refine zc 27 rfl Tryz.func159 #[.pointer (some ⟨g,0,none⟩),.int .i64 (wrap64 (x3_2-1))] ?_;refine zj (ay.calls g t137 t138 t139 s0_3 t140 (wrap64 (x3_2-1)) t141 t142 t143 t144 t145 w0 _ zi zw A18.out) zk ?_;clear HK HB HI0;intro w45 HK HB HI0)|(refine zc 29 rfl Tryz.func164 #[.int .u8 t136] ?_;refine za (dV.calls t136 false _ A19.out) fun nd=> ?_)|(go_at_call 165;(with_reducible refine (eu.calls t136 false _ A23.out).mono ?_);rintro e w' ⟨rfl,⟨nd,rfl⟩⟩))
                     go_roundg k2
                     case measure=>have:=HJ1.out;have:=HK2.out;omega
                     case rel=>exact ⟨(wrap64 (x3_2+1)),(t142),(t143),(t144),(t145),zr,H',⟨by have:=HJ1.out;have:=HK2.out;omega⟩,⟨zi⟩,⟨zk⟩,⟨zw⟩⟩
                   · simp only [Option.some.injEq,Prod.mk.injEq] at H
                     obtain ⟨rfl,rfl,rfl,rfl,rfl⟩:=H
                     go_wp2_with (first|(refine zc 23 rfl Tryz.func159 #[.pointer (some ⟨g,0,none⟩),.int .i64 x3_2] ?_;refine zj (ay.calls g x1000_2 x1001_2 x1002_2 s0_3 x1004_2 x3_2 t136 t137 t138 t139 t140 w0 _ zi zw A17.out) zk ?_;clear HK HB HI0;intro w46 HK HB HI0)|(refine zc 27 rfl Tryz.func159 #[.pointer (some ⟨g,0,none⟩),.int .i64 (wrap64 (x3_2-1))] ?_;refine zj (ay.calls g t137 t138 t139 s0_3 t140 (wrap64 (x3_2-1)) t141 t142 t143 t144 t145 w0 _ zi zw A18.out) zk ?_;clear HK HB HI0;intro w47 HK HB HI0)|(refine zc 29 rfl Tryz.func164 #[.int .u8 t136] ?_;refine za (dV.calls t136 false _ A19.out) fun nd=> ?_)|(go_at_call 165;(with_reducible refine (eu.calls t136 false _ A23.out).mono ?_);rintro e w' ⟨rfl,⟨nd,rfl⟩⟩))
                     go_ret
                     exact ⟨zv,zi,zw,zk⟩
               · simp only [Option.some.injEq,Prod.mk.injEq] at H
                 obtain ⟨rfl,rfl,rfl,rfl,rfl⟩:=H
                 go_wp2_with (first|(refine zc 23 rfl Tryz.func159 #[.pointer (some ⟨g,0,none⟩),.int .i64 x3_2] ?_;refine zj (ay.calls g x1000_2 x1001_2 x1002_2 s0_3 x1004_2 x3_2 t136 t137 t138 t139 t140 w0 _ zi zw A17.out) zk ?_;clear HK HB HI0;intro w48 HK HB HI0)|(refine zc 27 rfl Tryz.func159 #[.pointer (some ⟨g,0,none⟩),.int .i64 (wrap64 (x3_2-1))] ?_;refine zj (ay.calls g t137 t138 t139 s0_3 t140 (wrap64 (x3_2-1)) t141 t142 t143 t144 t145 w0 _ zi zw A18.out) zk ?_;clear HK HB HI0;intro w49 HK HB HI0)|(refine zc 29 rfl Tryz.func164 #[.int .u8 t136] ?_;refine za (dV.calls t136 false _ A19.out) fun nd=> ?_)|(go_at_call 165;(with_reducible refine (eu.calls t136 false _ A23.out).mono ?_);rintro e w' ⟨rfl,⟨nd,rfl⟩⟩))
                 go_ret
                 exact ⟨zv,zi,zw,zk⟩
def bU.l0:Nat→Int→Int→ByteArray→Int→Value→List ByteArray→Bool→Option (Int × ByteArray × Int × Value × Bool)
 |0,_,_,_,_,_,_,_=>none
 |k+1,x1,x5,x1000,x1001,x1002,x1003,x1004=>if (wrap64 (x1001+x5))<(x1000.size:Int) then ((ay.f x1000 x1001 x1002 x1003 x1004 x5).bind fun bt153=>(if bt153.1=x1 then (some (wrap64 (x5+1),bt153.2.1,bt153.2.2.1,bt153.2.2.2.1,bt153.2.2.2.2)) else (if bt153.1=10 then (some (0,bt153.2.1,bt153.2.2.1,bt153.2.2.2.1,bt153.2.2.2.2)) else (if bt153.1=92 then ((ay.f bt153.2.1 bt153.2.2.1 bt153.2.2.2.1 x1003 bt153.2.2.2.2 (wrap64 (x5+1))).bind fun bt158=>(if bt158.1=10 then (some (0,bt158.2.1,bt158.2.2.1,bt158.2.2.2.1,bt158.2.2.2.2)) else (bU.l0 k x1 (wrap64 ((wrap64 (x5+1))+1)) bt158.2.1 bt158.2.2.1 bt158.2.2.2.1 x1003 bt158.2.2.2.2))) else (bU.l0 k x1 (wrap64 (x5+1)) bt153.2.1 bt153.2.2.1 bt153.2.2.2.1 x1003 bt153.2.2.2.2))))) else (some (0,x1000,x1001,x1002,x1004))
def bU.f (k:Nat)(s0_0:ByteArray)(s0_1:Int)(s0_2:Value)(s0_3:List ByteArray)(s0_4:Bool)(a1:Int):Option (Int × ByteArray × Int × Value × Bool):=(ay.f s0_0 s0_1 s0_2 s0_3 s0_4 0).bind fun bt148=>(if bt148.1=a1 then (bU.l0 k a1 1 bt148.2.1 bt148.2.2.1 bt148.2.2.2.1 s0_3 bt148.2.2.2.2) else (some (0,bt148.2.1,bt148.2.2.1,bt148.2.2.2.1,bt148.2.2.2.2)))
theorem bU.calls (k:Nat)(g:Nat)(s0_0:ByteArray)(s0_1:Int)(s0_2:Value)(s0_3:List ByteArray)(s0_4:Bool)(a1:Int)(r1:Int)(r2:ByteArray)(r3:Int)(r4:Value)(r5:Bool)(w0 w:World)(hI:bK w0 w g s0_0 s0_1 s0_2 s0_3 s0_4)(hB:Below w0.heap.size w0 w)(h:bU.f k s0_0 s0_1 s0_2 s0_3 s0_4 a1=some (r1,r2,r3,r4,r5)):
 Calls Tryz.prog 166 #[.pointer (some ⟨g,0,none⟩),.int .u8 a1] w fun e w'=>e= .returned (.int .i64 r1)∧bK w0 w' g r2 r3 r4 s0_3 r5∧Below w0.heap.size w0 w'∧aG w w' g none:=by
 have HI0:=z0 hI
 have HK:=z0 (aG.refl w g none)
 have HL:=z0 hB.size
 clear hI
 have HW0:=z0 hB.size
 have HB:=z0 hB
 clear hB
 have H:=h
 clear h
 unfold bU.f at H
 replace H:=zo H
 obtain ⟨⟨t148,t149,t150,t151,t152⟩,A3,H⟩:=H
 (try dsimp only at H)
 replace H:=ze H
 rcases H with ⟨c4b0,c4b1,H⟩|⟨c4b0,c4b1,H⟩
 · have H':=z0 H
   clear H
   go_enter Tryz.func166,Tryz.ntmps166
   go_wp2_with (first|(go_at_call 159;(with_reducible refine (ay.calls g s0_0 s0_1 s0_2 s0_3 s0_4 0 t148 t149 t150 t151 t152 w0 _ ?side1 ?side2 A3.out).mono ?_);(case side1=>exact zi);(case side2=>exact zw);rintro e w5 ⟨rfl,hi,hb,hk⟩;have n0_:=z0 (aG.trans zk hk (.inl rfl));have n1_:=z0 (hb);have n2_:=z0 (hi);revert n0_ n1_ n2_;clear HK HB HI0;intro HK HB HI0;(try clear hb);(try clear hk);(try clear hi)))
   repeat (go_quiet (first|(go_at_call 159;(with_reducible refine (ay.calls g s0_0 s0_1 s0_2 s0_3 s0_4 0 t148 t149 t150 t151 t152 w0 _ ?side1 ?side2 A3.out).mono ?_);(case side1=>exact zi);(case side2=>exact zw);rintro e w5 ⟨rfl,hi,hb,hk⟩;have n0_:=z0 (aG.trans zk hk (.inl rfl));have n1_:=z0 (hb);have n2_:=z0 (hi);revert n0_ n1_ n2_;clear HK HB HI0;intro HK HB HI0;(try clear hb);(try clear hk);(try clear hi)));try go_wp2_with (first|(go_at_call 159;(with_reducible refine (ay.calls g s0_0 s0_1 s0_2 s0_3 s0_4 0 t148 t149 t150 t151 t152 w0 _ ?side1 ?side2 A3.out).mono ?_);(case side1=>exact zi);(case side2=>exact zw);rintro e w5 ⟨rfl,hi,hb,hk⟩;have n0_:=z0 (aG.trans zk hk (.inl rfl));have n1_:=z0 (hb);have n2_:=z0 (hi);revert n0_ n1_ n2_;clear HK HB HI0;intro HK HB HI0;(try clear hb);(try clear hk);(try clear hi))))
   try go_simp
   go_loopg [5] k (fun kq v5 w'=>∃(x5_1:Int) (x1000_1:ByteArray) (x1001_1:Int) (x1002_1:Value) (x1004_1:Bool),v5= .int .i64 x5_1∧ah (bU.l0 kq a1 x5_1 x1000_1 x1001_1 x1002_1 s0_3 x1004_1=some (r1,r2,r3,r4,r5))∧ah (kq≤k)∧ah (bK w0 w' g x1000_1 x1001_1 x1002_1 s0_3 x1004_1)∧ah (aG w w' g none)∧ah (Below w0.heap.size w0 w'))
   case atStart=>exact ⟨(1),(t149),(t150),(t151),(t152),zr,H',⟨Nat.le_refl _⟩,⟨zi⟩,⟨zk⟩,⟨zw⟩⟩
   case round=>
    clear H'
    obtain ⟨x5_1,x1000_1,x1001_1,x1002_1,x1004_1,rfl,HA,HK1,HI0,HK,HB⟩:=hrel
    cases gk with
    |zero=>exact absurd HA.out (by simp [bU.l0])
    |succ k1=>
     have H:=HA.out
     clear HA
     simp only [bU.l0] at H
     replace H:=zd H
     rcases H with ⟨c6b0,H⟩|⟨c6b0,H⟩
     · replace H:=zo H
       obtain ⟨⟨t153,t154,t155,t156,t157⟩,A7,H⟩:=H
       (try dsimp only at H)
       replace H:=ze H
       rcases H with ⟨c8b0,c8b1,H⟩|⟨c8b0,c8b1,H⟩
       · simp only [Option.some.injEq,Prod.mk.injEq] at H
         obtain ⟨rfl,rfl,rfl,rfl,rfl⟩:=H
         obtain ⟨ASz9_3,cSz9_3,HSz9_3,hcz9_0,hcz9_1,hcz9_2,hcz9_3,hcz9_4,hfz9_0,hfz9_1,hfz9_2,hfz9_4⟩:=zs HI0.out
         go_wp2_with (first|(go_at_call 159;(with_reducible refine (ay.calls g x1000_1 x1001_1 x1002_1 s0_3 x1004_1 x5_1 t153 t154 t155 t156 t157 w0 _ ?side1 ?side2 A7.out).mono ?_);(case side1=>exact zi);(case side2=>exact zw);rintro e w10 ⟨rfl,hi,hb,hk⟩;have n0_:=z0 (aG.trans zk hk (.inl rfl));have n1_:=z0 (hb);have n2_:=z0 (hi);revert n0_ n1_ n2_;clear HK HB HI0;intro HK HB HI0;(try clear hb);(try clear hk);(try clear hi)))
         repeat (go_quiet (first|(go_at_call 159;(with_reducible refine (ay.calls g x1000_1 x1001_1 x1002_1 s0_3 x1004_1 x5_1 t153 t154 t155 t156 t157 w0 _ ?side1 ?side2 A7.out).mono ?_);(case side1=>exact zi);(case side2=>exact zw);rintro e w10 ⟨rfl,hi,hb,hk⟩;have n0_:=z0 (aG.trans zk hk (.inl rfl));have n1_:=z0 (hb);have n2_:=z0 (hi);revert n0_ n1_ n2_;clear HK HB HI0;intro HK HB HI0;(try clear hb);(try clear hk);(try clear hi)));try go_wp2_with (first|(go_at_call 159;(with_reducible refine (ay.calls g x1000_1 x1001_1 x1002_1 s0_3 x1004_1 x5_1 t153 t154 t155 t156 t157 w0 _ ?side1 ?side2 A7.out).mono ?_);(case side1=>exact zi);(case side2=>exact zw);rintro e w10 ⟨rfl,hi,hb,hk⟩;have n0_:=z0 (aG.trans zk hk (.inl rfl));have n1_:=z0 (hb);have n2_:=z0 (hi);revert n0_ n1_ n2_;clear HK HB HI0;intro HK HB HI0;(try clear hb);(try clear hk);(try clear hi))))
         go_ret
         exact ⟨zv,zi,zw,zk⟩
       · replace H:=ze H
         rcases H with ⟨c11b0,c11b1,H⟩|⟨c11b0,c11b1,H⟩
         · simp only [Option.some.injEq,Prod.mk.injEq] at H
           obtain ⟨rfl,rfl,rfl,rfl,rfl⟩:=H
           obtain ⟨ASz12_3,cSz12_3,HSz12_3,hcz12_0,hcz12_1,hcz12_2,hcz12_3,hcz12_4,hfz12_0,hfz12_1,hfz12_2,hfz12_4⟩:=zs HI0.out
           go_wp2_with (first|(go_at_call 159;(with_reducible refine (ay.calls g x1000_1 x1001_1 x1002_1 s0_3 x1004_1 x5_1 t153 t154 t155 t156 t157 w0 _ ?side1 ?side2 A7.out).mono ?_);(case side1=>exact zi);(case side2=>exact zw);rintro e w13 ⟨rfl,hi,hb,hk⟩;have n0_:=z0 (aG.trans zk hk (.inl rfl));have n1_:=z0 (hb);have n2_:=z0 (hi);revert n0_ n1_ n2_;clear HK HB HI0;intro HK HB HI0;(try clear hb);(try clear hk);(try clear hi)))
           repeat (go_quiet (first|(go_at_call 159;(with_reducible refine (ay.calls g x1000_1 x1001_1 x1002_1 s0_3 x1004_1 x5_1 t153 t154 t155 t156 t157 w0 _ ?side1 ?side2 A7.out).mono ?_);(case side1=>exact zi);(case side2=>exact zw);rintro e w13 ⟨rfl,hi,hb,hk⟩;have n0_:=z0 (aG.trans zk hk (.inl rfl));have n1_:=z0 (hb);have n2_:=z0 (hi);revert n0_ n1_ n2_;clear HK HB HI0;intro HK HB HI0;(try clear hb);(try clear hk);(try clear hi)));try go_wp2_with (first|(go_at_call 159;(with_reducible refine (ay.calls g x1000_1 x1001_1 x1002_1 s0_3 x1004_1 x5_1 t153 t154 t155 t156 t157 w0 _ ?side1 ?side2 A7.out).mono ?_);(case side1=>exact zi);(case side2=>exact zw);rintro e w13 ⟨rfl,hi,hb,hk⟩;have n0_:=z0 (aG.trans zk hk (.inl rfl));have n1_:=z0 (hb);have n2_:=z0 (hi);revert n0_ n1_ n2_;clear HK HB HI0;intro HK HB HI0;(try clear hb);(try clear hk);(try clear hi))))
           go_ret
           exact ⟨zv,zi,zw,zk⟩
         · replace H:=ze H
           rcases H with ⟨c14b0,c14b1,H⟩|⟨c14b0,c14b1,H⟩
           · replace H:=zo H
             obtain ⟨⟨t158,t159,t160,t161,t162⟩,A15,H⟩:=H
             (try dsimp only at H)
             replace H:=ze H
             rcases H with ⟨c16b0,c16b1,H⟩|⟨c16b0,c16b1,H⟩
             · simp only [Option.some.injEq,Prod.mk.injEq] at H
               obtain ⟨rfl,rfl,rfl,rfl,rfl⟩:=H
               obtain ⟨ASz17_3,cSz17_3,HSz17_3,hcz17_0,hcz17_1,hcz17_2,hcz17_3,hcz17_4,hfz17_0,hfz17_1,hfz17_2,hfz17_4⟩:=zs HI0.out
               go_wp2_with (first|(go_at_call 159;(with_reducible refine (ay.calls g x1000_1 x1001_1 x1002_1 s0_3 x1004_1 x5_1 t153 t154 t155 t156 t157 w0 _ ?side1 ?side2 A7.out).mono ?_);(case side1=>exact zi);(case side2=>exact zw);rintro e w18 ⟨rfl,hi,hb,hk⟩;have n0_:=z0 (aG.trans zk hk (.inl rfl));have n1_:=z0 (hb);have n2_:=z0 (hi);revert n0_ n1_ n2_;clear HK HB HI0;intro HK HB HI0;(try clear hb);(try clear hk);(try clear hi))|(go_at_call 159;(with_reducible refine (ay.calls g t154 t155 t156 s0_3 t157 (wrap64 (x5_1+1)) t158 t159 t160 t161 t162 w0 _ ?side1 ?side2 A15.out).mono ?_);(case side1=>exact zi);(case side2=>exact zw);rintro e w19 ⟨rfl,hi,hb,hk⟩;have n0_:=z0 (aG.trans zk hk (.inl rfl));have n1_:=z0 (hb);have n2_:=z0 (hi);revert n0_ n1_ n2_;clear HK HB HI0;intro HK HB HI0;(try clear hb);(try clear hk);(try clear hi)))
               repeat (go_quiet (first|(go_at_call 159;(with_reducible refine (ay.calls g x1000_1 x1001_1 x1002_1 s0_3 x1004_1 x5_1 t153 t154 t155 t156 t157 w0 _ ?side1 ?side2 A7.out).mono ?_);(case side1=>exact zi);(case side2=>exact zw);rintro e w18 ⟨rfl,hi,hb,hk⟩;have n0_:=z0 (aG.trans zk hk (.inl rfl));have n1_:=z0 (hb);have n2_:=z0 (hi);revert n0_ n1_ n2_;clear HK HB HI0;intro HK HB HI0;(try clear hb);(try clear hk);(try clear hi))|(go_at_call 159;(with_reducible refine (ay.calls g t154 t155 t156 s0_3 t157 (wrap64 (x5_1+1)) t158 t159 t160 t161 t162 w0 _ ?side1 ?side2 A15.out).mono ?_);(case side1=>exact zi);(case side2=>exact zw);rintro e w19 ⟨rfl,hi,hb,hk⟩;have n0_:=z0 (aG.trans zk hk (.inl rfl));have n1_:=z0 (hb);have n2_:=z0 (hi);revert n0_ n1_ n2_;clear HK HB HI0;intro HK HB HI0;(try clear hb);(try clear hk);(try clear hi)));try go_wp2_with (first|(go_at_call 159;(with_reducible refine (ay.calls g x1000_1 x1001_1 x1002_1 s0_3 x1004_1 x5_1 t153 t154 t155 t156 t157 w0 _ ?side1 ?side2 A7.out).mono ?_);(case side1=>exact zi);(case side2=>exact zw);rintro e w18 ⟨rfl,hi,hb,hk⟩;have n0_:=z0 (aG.trans zk hk (.inl rfl));have n1_:=z0 (hb);have n2_:=z0 (hi);revert n0_ n1_ n2_;clear HK HB HI0;intro HK HB HI0;(try clear hb);(try clear hk);(try clear hi))|(go_at_call 159;(with_reducible refine (ay.calls g t154 t155 t156 s0_3 t157 (wrap64 (x5_1+1)) t158 t159 t160 t161 t162 w0 _ ?side1 ?side2 A15.out).mono ?_);(case side1=>exact zi);(case side2=>exact zw);rintro e w19 ⟨rfl,hi,hb,hk⟩;have n0_:=z0 (aG.trans zk hk (.inl rfl));have n1_:=z0 (hb);have n2_:=z0 (hi);revert n0_ n1_ n2_;clear HK HB HI0;intro HK HB HI0;(try clear hb);(try clear hk);(try clear hi))))
               go_ret
               exact ⟨zv,zi,zw,zk⟩
             · have H':=z0 H
               clear H
               obtain ⟨ASz20_3,cSz20_3,HSz20_3,hcz20_0,hcz20_1,hcz20_2,hcz20_3,hcz20_4,hfz20_0,hfz20_1,hfz20_2,hfz20_4⟩:=zs HI0.out
               go_wp2_with (first|(go_at_call 159;(with_reducible refine (ay.calls g x1000_1 x1001_1 x1002_1 s0_3 x1004_1 x5_1 t153 t154 t155 t156 t157 w0 _ ?side1 ?side2 A7.out).mono ?_);(case side1=>exact zi);(case side2=>exact zw);rintro e w21 ⟨rfl,hi,hb,hk⟩;have n0_:=z0 (aG.trans zk hk (.inl rfl));have n1_:=z0 (hb);have n2_:=z0 (hi);revert n0_ n1_ n2_;clear HK HB HI0;intro HK HB HI0;(try clear hb);(try clear hk);(try clear hi))|(go_at_call 159;(with_reducible refine (ay.calls g t154 t155 t156 s0_3 t157 (wrap64 (x5_1+1)) t158 t159 t160 t161 t162 w0 _ ?side1 ?side2 A15.out).mono ?_);(case side1=>exact zi);(case side2=>exact zw);rintro e w22 ⟨rfl,hi,hb,hk⟩;have n0_:=z0 (aG.trans zk hk (.inl rfl));have n1_:=z0 (hb);have n2_:=z0 (hi);revert n0_ n1_ n2_;clear HK HB HI0;intro HK HB HI0;(try clear hb);(try clear hk);(try clear hi)))
               repeat (go_quiet (first|(go_at_call 159;(with_reducible refine (ay.calls g x1000_1 x1001_1 x1002_1 s0_3 x1004_1 x5_1 t153 t154 t155 t156 t157 w0 _ ?side1 ?side2 A7.out).mono ?_);(case side1=>exact zi);(case side2=>exact zw);rintro e w21 ⟨rfl,hi,hb,hk⟩;have n0_:=z0 (aG.trans zk hk (.inl rfl));have n1_:=z0 (hb);have n2_:=z0 (hi);revert n0_ n1_ n2_;clear HK HB HI0;intro HK HB HI0;(try clear hb);(try clear hk);(try clear hi))|(go_at_call 159;(with_reducible refine (ay.calls g t154 t155 t156 s0_3 t157 (wrap64 (x5_1+1)) t158 t159 t160 t161 t162 w0 _ ?side1 ?side2 A15.out).mono ?_);(case side1=>exact zi);(case side2=>exact zw);rintro e w22 ⟨rfl,hi,hb,hk⟩;have n0_:=z0 (aG.trans zk hk (.inl rfl));have n1_:=z0 (hb);have n2_:=z0 (hi);revert n0_ n1_ n2_;clear HK HB HI0;intro HK HB HI0;(try clear hb);(try clear hk);(try clear hi)));try go_wp2_with (first|(go_at_call 159;(with_reducible refine (ay.calls g x1000_1 x1001_1 x1002_1 s0_3 x1004_1 x5_1 t153 t154 t155 t156 t157 w0 _ ?side1 ?side2 A7.out).mono ?_);(case side1=>exact zi);(case side2=>exact zw);rintro e w21 ⟨rfl,hi,hb,hk⟩;have n0_:=z0 (aG.trans zk hk (.inl rfl));have n1_:=z0 (hb);have n2_:=z0 (hi);revert n0_ n1_ n2_;clear HK HB HI0;intro HK HB HI0;(try clear hb);(try clear hk);(try clear hi))|(go_at_call 159;(with_reducible refine (ay.calls g t154 t155 t156 s0_3 t157 (wrap64 (x5_1+1)) t158 t159 t160 t161 t162 w0 _ ?side1 ?side2 A15.out).mono ?_);(case side1=>exact zi);(case side2=>exact zw);rintro e w22 ⟨rfl,hi,hb,hk⟩;have n0_:=z0 (aG.trans zk hk (.inl rfl));have n1_:=z0 (hb);have n2_:=z0 (hi);revert n0_ n1_ n2_;clear HK HB HI0;intro HK HB HI0;(try clear hb);(try clear hk);(try clear hi))))
               go_roundg k1
               case measure=>have:=HK1.out;omega
               case rel=>exact ⟨(wrap64 ((wrap64 (x5_1+1))+1)),(t159),(t160),(t161),(t162),zr,H',⟨by have:=HK1.out;omega⟩,⟨zi⟩,⟨zk⟩,⟨zw⟩⟩
           · have H':=z0 H
             clear H
             obtain ⟨ASz23_3,cSz23_3,HSz23_3,hcz23_0,hcz23_1,hcz23_2,hcz23_3,hcz23_4,hfz23_0,hfz23_1,hfz23_2,hfz23_4⟩:=zs HI0.out
             go_wp2_with (first|(go_at_call 159;(with_reducible refine (ay.calls g x1000_1 x1001_1 x1002_1 s0_3 x1004_1 x5_1 t153 t154 t155 t156 t157 w0 _ ?side1 ?side2 A7.out).mono ?_);(case side1=>exact zi);(case side2=>exact zw);rintro e w24 ⟨rfl,hi,hb,hk⟩;have n0_:=z0 (aG.trans zk hk (.inl rfl));have n1_:=z0 (hb);have n2_:=z0 (hi);revert n0_ n1_ n2_;clear HK HB HI0;intro HK HB HI0;(try clear hb);(try clear hk);(try clear hi)))
             repeat (go_quiet (first|(go_at_call 159;(with_reducible refine (ay.calls g x1000_1 x1001_1 x1002_1 s0_3 x1004_1 x5_1 t153 t154 t155 t156 t157 w0 _ ?side1 ?side2 A7.out).mono ?_);(case side1=>exact zi);(case side2=>exact zw);rintro e w24 ⟨rfl,hi,hb,hk⟩;have n0_:=z0 (aG.trans zk hk (.inl rfl));have n1_:=z0 (hb);have n2_:=z0 (hi);revert n0_ n1_ n2_;clear HK HB HI0;intro HK HB HI0;(try clear hb);(try clear hk);(try clear hi)));try go_wp2_with (first|(go_at_call 159;(with_reducible refine (ay.calls g x1000_1 x1001_1 x1002_1 s0_3 x1004_1 x5_1 t153 t154 t155 t156 t157 w0 _ ?side1 ?side2 A7.out).mono ?_);(case side1=>exact zi);(case side2=>exact zw);rintro e w24 ⟨rfl,hi,hb,hk⟩;have n0_:=z0 (aG.trans zk hk (.inl rfl));have n1_:=z0 (hb);have n2_:=z0 (hi);revert n0_ n1_ n2_;clear HK HB HI0;intro HK HB HI0;(try clear hb);(try clear hk);(try clear hi))))
             go_roundg k1
             case measure=>have:=HK1.out;omega
             case rel=>exact ⟨(wrap64 (x5_1+1)),(t154),(t155),(t156),(t157),zr,H',⟨by have:=HK1.out;omega⟩,⟨zi⟩,⟨zk⟩,⟨zw⟩⟩
     · simp only [Option.some.injEq,Prod.mk.injEq] at H
       obtain ⟨rfl,rfl,rfl,rfl,rfl⟩:=H
       obtain ⟨ASz25_3,cSz25_3,HSz25_3,hcz25_0,hcz25_1,hcz25_2,hcz25_3,hcz25_4,hfz25_0,hfz25_1,hfz25_2,hfz25_4⟩:=zs HI0.out
       go_wp2
       repeat (go_quiet (fail);try go_wp2)
       go_ret
       exact ⟨zv,zi,zw,zk⟩
 · simp only [Option.some.injEq,Prod.mk.injEq] at H
   obtain ⟨rfl,rfl,rfl,rfl,rfl⟩:=H
   go_enter Tryz.func166,Tryz.ntmps166
   go_wp2_with (first|(go_at_call 159;(with_reducible refine (ay.calls g s0_0 s0_1 s0_2 s0_3 s0_4 0 t148 t149 t150 t151 t152 w0 _ ?side1 ?side2 A3.out).mono ?_);(case side1=>exact zi);(case side2=>exact zw);rintro e w26 ⟨rfl,hi,hb,hk⟩;have n0_:=z0 (aG.trans zk hk (.inl rfl));have n1_:=z0 (hb);have n2_:=z0 (hi);revert n0_ n1_ n2_;clear HK HB HI0;intro HK HB HI0;(try clear hb);(try clear hk);(try clear hi)))
   repeat (go_quiet (first|(go_at_call 159;(with_reducible refine (ay.calls g s0_0 s0_1 s0_2 s0_3 s0_4 0 t148 t149 t150 t151 t152 w0 _ ?side1 ?side2 A3.out).mono ?_);(case side1=>exact zi);(case side2=>exact zw);rintro e w26 ⟨rfl,hi,hb,hk⟩;have n0_:=z0 (aG.trans zk hk (.inl rfl));have n1_:=z0 (hb);have n2_:=z0 (hi);revert n0_ n1_ n2_;clear HK HB HI0;intro HK HB HI0;(try clear hb);(try clear hk);(try clear hi)));try go_wp2_with (first|(go_at_call 159;(with_reducible refine (ay.calls g s0_0 s0_1 s0_2 s0_3 s0_4 0 t148 t149 t150 t151 t152 w0 _ ?side1 ?side2 A3.out).mono ?_);(case side1=>exact zi);(case side2=>exact zw);rintro e w26 ⟨rfl,hi,hb,hk⟩;have n0_:=z0 (aG.trans zk hk (.inl rfl));have n1_:=z0 (hb);have n2_:=z0 (hi);revert n0_ n1_ n2_;clear HK HB HI0;intro HK HB HI0;(try clear hb);(try clear hk);(try clear hi))))
   go_ret
   exact ⟨zv,zi,zw,zk⟩
def gy.f (k:Nat)(s0_0:ByteArray)(s0_1:Int)(s0_2:Value)(s0_3:List ByteArray)(s0_4:Bool):Option (Int × ByteArray × Int × Value × Bool):=(bU.f k s0_0 s0_1 s0_2 s0_3 s0_4 39).bind fun bt163=>(some (bt163.1,bt163.2.1,bt163.2.2.1,bt163.2.2.2.1,bt163.2.2.2.2))
theorem gy.calls (k:Nat)(g:Nat)(s0_0:ByteArray)(s0_1:Int)(s0_2:Value)(s0_3:List ByteArray)(s0_4:Bool)(r1:Int)(r2:ByteArray)(r3:Int)(r4:Value)(r5:Bool)(w0 w:World)(hI:bK w0 w g s0_0 s0_1 s0_2 s0_3 s0_4)(hB:Below w0.heap.size w0 w)(h:gy.f k s0_0 s0_1 s0_2 s0_3 s0_4=some (r1,r2,r3,r4,r5)):
 Calls Tryz.prog 122 #[.pointer (some ⟨g,0,none⟩)] w fun e w'=>e= .returned (.int .i64 r1)∧bK w0 w' g r2 r3 r4 s0_3 r5∧Below w0.heap.size w0 w'∧aG w w' g none:=by
 have HI0:=z0 hI
 have HK:=z0 (aG.refl w g none)
 have HL:=z0 hB.size
 clear hI
 have HW0:=z0 hB.size
 have HB:=z0 hB
 clear hB
 have H:=h
 clear h
 unfold gy.f at H
 replace H:=zo H
 obtain ⟨⟨t163,t164,t165,t166,t167⟩,A2,H⟩:=H
 (try dsimp only at H)
 simp only [Option.some.injEq,Prod.mk.injEq] at H
 obtain ⟨rfl,rfl,rfl,rfl,rfl⟩:=H
 go_enter Tryz.func122,Tryz.ntmps122
 go_wp2_with (first|(refine zc 4 rfl Tryz.func166 #[.pointer (some ⟨g,0,none⟩),.int .u8 39] ?_;refine zj (bU.calls k g s0_0 s0_1 s0_2 s0_3 s0_4 39 t163 t164 t165 t166 t167 w0 _ zi zw A2.out) zk ?_;clear HK HB HI0;intro w3 HK HB HI0))
 go_ret
 exact ⟨zv,zi,zw,zk⟩
def gu.f (k:Nat)(s0_0:ByteArray)(s0_1:Int)(s0_2:Value)(s0_3:List ByteArray)(s0_4:Bool):Option (Int × ByteArray × Int × Value × Bool):=(bU.f k s0_0 s0_1 s0_2 s0_3 s0_4 34).bind fun bt168=>(some (bt168.1,bt168.2.1,bt168.2.2.1,bt168.2.2.2.1,bt168.2.2.2.2))
theorem gu.calls (k:Nat)(g:Nat)(s0_0:ByteArray)(s0_1:Int)(s0_2:Value)(s0_3:List ByteArray)(s0_4:Bool)(r1:Int)(r2:ByteArray)(r3:Int)(r4:Value)(r5:Bool)(w0 w:World)(hI:bK w0 w g s0_0 s0_1 s0_2 s0_3 s0_4)(hB:Below w0.heap.size w0 w)(h:gu.f k s0_0 s0_1 s0_2 s0_3 s0_4=some (r1,r2,r3,r4,r5)):
 Calls Tryz.prog 123 #[.pointer (some ⟨g,0,none⟩)] w fun e w'=>e= .returned (.int .i64 r1)∧bK w0 w' g r2 r3 r4 s0_3 r5∧Below w0.heap.size w0 w'∧aG w w' g none:=by
 have HI0:=z0 hI
 have HK:=z0 (aG.refl w g none)
 have HL:=z0 hB.size
 clear hI
 have HW0:=z0 hB.size
 have HB:=z0 hB
 clear hB
 have H:=h
 clear h
 unfold gu.f at H
 replace H:=zo H
 obtain ⟨⟨t168,t169,t170,t171,t172⟩,A2,H⟩:=H
 (try dsimp only at H)
 simp only [Option.some.injEq,Prod.mk.injEq] at H
 obtain ⟨rfl,rfl,rfl,rfl,rfl⟩:=H
 go_enter Tryz.func123,Tryz.ntmps123
 go_wp2_with (first|(refine zc 4 rfl Tryz.func166 #[.pointer (some ⟨g,0,none⟩),.int .u8 34] ?_;refine zj (bU.calls k g s0_0 s0_1 s0_2 s0_3 s0_4 34 t168 t169 t170 t171 t172 w0 _ zi zw A2.out) zk ?_;clear HK HB HI0;intro w3 HK HB HI0))
 go_ret
 exact ⟨zv,zi,zw,zk⟩
def stringslite_HasPrefix.f (a0:ByteArray)(a1:ByteArray):Option (Bool):=if (a0.size:Int)≥(a1.size:Int) then (if 0≤(a1.size:Int) then (if (a1.size:Int)≤(a0.size:Int) then (some ((a0.extract 0 ((a1.size:Int):Int).toNat).toList==a1.toList)) else (none)) else (none)) else (some false)
theorem stringslite_HasPrefix.calls (a0:ByteArray)(a1:ByteArray)(r:Bool)(w:World)(h:stringslite_HasPrefix.f a0 a1=some r):
 Calls Tryz.prog 131 #[.string a0,.string a1] w fun e w'=>e= .returned (.bool r)∧dM w w':=by
 have H:=h
 clear h
 unfold stringslite_HasPrefix.f at H
 by_cases c3:(a0.size:Int)≥(a1.size:Int)
 · rw [if_pos c3] at H
   have c3b0:decide ((a1.size:Int)≤(a0.size:Int))=true:=decide_eq_true c3
   have c3b1:decide (a1.size≤a0.size)=true:=decide_eq_true (Int.ofNat_le.mp c3)
   clear c3
   replace H:=zyn H
   obtain ⟨c4b0,c4b1,H⟩:=H
   replace H:=zyn H
   obtain ⟨c5b0,c5b1,H⟩:=H
   obtain rfl:=Option.some.inj H
   go_enter Tryz.func131,Tryz.ntmps131
   go_wp2
   go_ret
   exact ⟨zr,zq⟩
 · rw [if_neg c3] at H
   have c3b0:decide ((a1.size:Int)≤(a0.size:Int))=false:=decide_eq_false c3
   have c3b1:decide (a1.size≤a0.size)=false:=decide_eq_false (fun h=>c3 (Int.ofNat_le.mpr h))
   clear c3
   obtain rfl:=Option.some.inj H
   go_enter Tryz.func131,Tryz.ntmps131
   go_wp2
   go_ret
   exact ⟨zr,zq⟩
def strings_HasPrefix.f (a0:ByteArray)(a1:ByteArray):Option (Bool):=(stringslite_HasPrefix.f a0 a1).bind fun t173=>(some t173)
theorem strings_HasPrefix.calls (a0:ByteArray)(a1:ByteArray)(r:Bool)(w:World)(h:strings_HasPrefix.f a0 a1=some r):
 Calls Tryz.prog 72 #[.string a0,.string a1] w fun e w'=>e= .returned (.bool r)∧dM w w':=by
 have H:=h
 clear h
 unfold strings_HasPrefix.f at H
 replace H:=zo H
 obtain ⟨t173,A3,H⟩:=H
 (try dsimp only at H)
 obtain rfl:=Option.some.inj H
 go_enter Tryz.func72,Tryz.ntmps72
 go_wp2_with (first|(refine zc 7 rfl Tryz.func131 #[.string a0,.string a1] ?_;refine za (stringslite_HasPrefix.calls a0 a1 t173 _ A3.out) fun nd=> ?_))
 go_ret
 exact ⟨zr,zq⟩
def strings_IndexByte.f (a0:ByteArray)(a1:Int):Option Int:=some (Lib.indexByte a0.data.toList a1.toNat.toUInt8)
theorem strings_IndexByte.calls (a0:ByteArray)(a1:Int)(r:Int)(w:World)(h:strings_IndexByte.f a0 a1=some r):
 Calls Tryz.prog 73 #[.string a0,.int .u8 a1] w fun e w'=>e= .returned (.int .i64 r)∧dM w w':=by
 unfold strings_IndexByte.f at h
 obtain rfl:=Option.some.inj h
 exact (Tryz.strings_IndexByte a0 a1 w).mono fun e w' hw=>⟨hw.1,hw.2▸dM.refl _⟩
def strings_Index.f (a0:ByteArray)(a1:ByteArray):Option Int:=if a0.size<4294967281 then some (Lib.index a0.data.toList a1.data.toList) else none
theorem strings_Index.calls (a0:ByteArray)(a1:ByteArray)(r:Int)(w:World)(h:strings_Index.f a0 a1=some r)(hG_:Glob w):
 Calls Tryz.prog 185 #[.string a0,.string a1] w fun e w'=>e= .returned (.int .i64 r)∧dM w w':=by
 unfold strings_Index.f at h
 split at h
 · rename_i hc
   obtain rfl:=Option.some.inj h
   obtain ⟨m,hm⟩:=hG_.1
   exact (Tryz.strings_Index a0 a1 m w hc hm).mono fun e w' hw=>⟨hw.1,hw.2▸dM.refl _⟩
 · cases h
def strings_Contains.f (a0:ByteArray)(a1:ByteArray):Option Bool:=if a0.size<4294967281 then some (Lib.contains a0.data.toList a1.data.toList) else none
theorem strings_Contains.calls (a0:ByteArray)(a1:ByteArray)(r:Bool)(w:World)(h:strings_Contains.f a0 a1=some r)(hG_:Glob w):
 Calls Tryz.prog 188 #[.string a0,.string a1] w fun e w'=>e= .returned (.bool r)∧dM w w':=by
 unfold strings_Contains.f at h
 split at h
 · rename_i hc
   obtain rfl:=Option.some.inj h
   obtain ⟨m,hm⟩:=hG_.1
   exact (Tryz.strings_Contains a0 a1 m w hc hm).mono fun e w' hw=>⟨hw.1,hw.2▸dM.refl _⟩
 · cases h
def dU.f (s0_0:ByteArray)(s0_1:Int)(s0_2:Value)(s0_3:List ByteArray)(s0_4:Bool):Option (Bool × ByteArray × Int × Value × Bool):=(dQ.f s0_0 s0_1 s0_2 s0_3 s0_4).bind fun bt174=>((strings_HasPrefix.f bt174.1 (⟨#[47,47]⟩:ByteArray)).bind fun t179=>(if t179=true then ((strings_IndexByte.f bt174.1 10).bind fun t180=>(if t180<0 then (some (true,bt174.2.1,wrap64 (bt174.2.2.1+(bt174.1.size:Int)),bt174.2.2.2.1,bt174.2.2.2.2)) else (some (true,bt174.2.1,wrap64 (bt174.2.2.1+t180),bt174.2.2.2.1,bt174.2.2.2.2)))) else ((strings_HasPrefix.f bt174.1 (⟨#[47,42]⟩:ByteArray)).bind fun t181=>(if t181=true then (if 2≤(bt174.1.size:Int) then ((strings_Index.f (bt174.1.extract 2 bt174.1.size) (⟨#[42,47]⟩:ByteArray)).bind fun t182=>(if (wrap64 (t182+4))<4 then (if bt174.2.2.2.2=true then (some (true,bt174.2.1,wrap64 (bt174.2.2.1+(bt174.1.size:Int)),bt174.2.2.2.1,true)) else (if 0≤(bt174.1.size:Int) then (if (bt174.1.size:Int)≤(bt174.1.size:Int) then ((strings_Contains.f bt174.1 (⟨#[10]⟩:ByteArray)).bind fun t183=>(some (true,bt174.2.1,wrap64 (bt174.2.2.1+(bt174.1.size:Int)),bt174.2.2.2.1,t183))) else (none)) else (none))) else (if bt174.2.2.2.2=true then (some (true,bt174.2.1,wrap64 (bt174.2.2.1+(wrap64 (t182+4))),bt174.2.2.2.1,true)) else (if 0≤(wrap64 (t182+4)) then (if (wrap64 (t182+4))≤(bt174.1.size:Int) then ((strings_Contains.f (bt174.1.extract 0 ((wrap64 (t182+4)):Int).toNat) (⟨#[10]⟩:ByteArray)).bind fun t184=>(some (true,bt174.2.1,wrap64 (bt174.2.2.1+(wrap64 (t182+4))),bt174.2.2.2.1,t184))) else (none)) else (none))))) else (none)) else (some (false,bt174.2.1,bt174.2.2.1,bt174.2.2.2.1,bt174.2.2.2.2))))))
theorem dU.calls (g:Nat)(s0_0:ByteArray)(s0_1:Int)(s0_2:Value)(s0_3:List ByteArray)(s0_4:Bool)(r1:Bool)(r2:ByteArray)(r3:Int)(r4:Value)(r5:Bool)(w0 w:World)(hI:bK w0 w g s0_0 s0_1 s0_2 s0_3 s0_4)(hB:Below w0.heap.size w0 w)(h:dU.f s0_0 s0_1 s0_2 s0_3 s0_4=some (r1,r2,r3,r4,r5))(hG_:Glob w0):
 Calls Tryz.prog 160 #[.pointer (some ⟨g,0,none⟩)] w fun e w'=>e= .returned (.bool r1)∧bK w0 w' g r2 r3 r4 s0_3 r5∧Below w0.heap.size w0 w'∧aG w w' g none:=by
 have HI0:=z0 hI
 have HK:=z0 (aG.refl w g none)
 have HL:=z0 hB.size
 clear hI
 have HW0:=z0 hB.size
 have HB:=z0 hB
 clear hB
 have H:=h
 clear h
 unfold dU.f at H
 replace H:=zo H
 obtain ⟨⟨t174,t175,t176,t177,t178⟩,A2,H⟩:=H
 (try dsimp only at H)
 replace H:=zo H
 obtain ⟨t179,A3,H⟩:=H
 (try dsimp only at H)
 by_cases c4:t179=true
 · subst c4
   rw [if_pos rfl] at H
   replace H:=zo H
   obtain ⟨t180,A5,H⟩:=H
   (try dsimp only at H)
   replace H:=zd H
   rcases H with ⟨c6b0,H⟩|⟨c6b0,H⟩
   · simp only [Option.some.injEq,Prod.mk.injEq] at H
     obtain ⟨rfl,rfl,rfl,rfl,rfl⟩:=H
     go_enter Tryz.func160,Tryz.ntmps160
     go_wp2_with (first|(refine zc 7 rfl Tryz.func161 #[.pointer (some ⟨g,0,none⟩)] ?_;refine zj (dQ.calls g s0_0 s0_1 s0_2 s0_3 s0_4 t174 t175 t176 t177 t178 w0 _ zi zw A2.out) zk ?_;clear HK HB HI0;intro w7 HK HB HI0)|(refine zc 10 rfl Tryz.func72 #[.string t174,.string (⟨#[47,47]⟩:ByteArray)] ?_;refine za (strings_HasPrefix.calls t174 (⟨#[47,47]⟩:ByteArray) true _ A3.out) fun nd=> ?_;(try (rw [gG w7];generalize hq_:World.drewN w7 _=w7;have n0_:ah (bK w0 w7 g t175 t176 t177 s0_3 t178):=⟨hq_▸zi⟩;have n1_:ah (aG w w7 g none):=⟨hq_▸zk⟩;have n2_:ah (Below w0.heap.size w0 w7):=⟨hq_▸zw⟩;clear HI0 HK HB hq_;revert n0_ n1_ n2_;intro HI0 HK HB;(try (obtain ⟨ASq_,cSq_,HGq_,hgq_,HSq_⟩:=HI0.out;have hcq_0:=eX HGq_;have hfq_0:=aj HGq_ 0;have hcq_1:=dW HGq_;have hfq_1:=aj HGq_ 1;have hcq_2:=fK HGq_;have hfq_2:=aj HGq_ 2;have hcq_3:=fP HGq_;have hfq_3:=aj HGq_ 3;have hcq_4:=eH HGq_;have hfq_4:=aj HGq_ 4;clear HGq_ hgq_)))))|(refine zc 12 rfl Tryz.func73 #[.string t174,.int .u8 10] ?_;refine za (strings_IndexByte.calls t174 10 t180 _ A5.out) fun nd=> ?_;(try (rw [gG w7];generalize hq_:World.drewN w7 _=w7;have n0_:ah (bK w0 w7 g t175 t176 t177 s0_3 t178):=⟨hq_▸zi⟩;have n1_:ah (aG w w7 g none):=⟨hq_▸zk⟩;have n2_:ah (Below w0.heap.size w0 w7):=⟨hq_▸zw⟩;clear HI0 HK HB hq_;revert n0_ n1_ n2_;intro HI0 HK HB;(try (obtain ⟨ASq_,cSq_,HGq_,hgq_,HSq_⟩:=HI0.out;have hcq_0:=eX HGq_;have hfq_0:=aj HGq_ 0;have hcq_1:=dW HGq_;have hfq_1:=aj HGq_ 1;have hcq_2:=fK HGq_;have hfq_2:=aj HGq_ 2;have hcq_3:=fP HGq_;have hfq_3:=aj HGq_ 3;have hcq_4:=eH HGq_;have hfq_4:=aj HGq_ 4;clear HGq_ hgq_))));obtain ⟨ASz8_3,cSz8_3,HSz8_3,hcz8_0,hcz8_1,hcz8_2,hcz8_3,hcz8_4,hfz8_0,hfz8_1,hfz8_2,hfz8_4⟩:=zs HI0.out))
     go_ret
     exact ⟨zv,zi,zw,zk⟩
   · simp only [Option.some.injEq,Prod.mk.injEq] at H
     obtain ⟨rfl,rfl,rfl,rfl,rfl⟩:=H
     go_enter Tryz.func160,Tryz.ntmps160
     go_wp2_with (first|(refine zc 7 rfl Tryz.func161 #[.pointer (some ⟨g,0,none⟩)] ?_;refine zj (dQ.calls g s0_0 s0_1 s0_2 s0_3 s0_4 t174 t175 t176 t177 t178 w0 _ zi zw A2.out) zk ?_;clear HK HB HI0;intro w9 HK HB HI0)|(refine zc 10 rfl Tryz.func72 #[.string t174,.string (⟨#[47,47]⟩:ByteArray)] ?_;refine za (strings_HasPrefix.calls t174 (⟨#[47,47]⟩:ByteArray) true _ A3.out) fun nd=> ?_;(try (rw [gG w9];generalize hq_:World.drewN w9 _=w9;have n0_:ah (bK w0 w9 g t175 t176 t177 s0_3 t178):=⟨hq_▸zi⟩;have n1_:ah (aG w w9 g none):=⟨hq_▸zk⟩;have n2_:ah (Below w0.heap.size w0 w9):=⟨hq_▸zw⟩;clear HI0 HK HB hq_;revert n0_ n1_ n2_;intro HI0 HK HB;(try (obtain ⟨ASq_,cSq_,HGq_,hgq_,HSq_⟩:=HI0.out;have hcq_0:=eX HGq_;have hfq_0:=aj HGq_ 0;have hcq_1:=dW HGq_;have hfq_1:=aj HGq_ 1;have hcq_2:=fK HGq_;have hfq_2:=aj HGq_ 2;have hcq_3:=fP HGq_;have hfq_3:=aj HGq_ 3;have hcq_4:=eH HGq_;have hfq_4:=aj HGq_ 4;clear HGq_ hgq_)))))|(refine zc 12 rfl Tryz.func73 #[.string t174,.int .u8 10] ?_;refine za (strings_IndexByte.calls t174 10 t180 _ A5.out) fun nd=> ?_;(try (rw [gG w9];generalize hq_:World.drewN w9 _=w9;have n0_:ah (bK w0 w9 g t175 t176 t177 s0_3 t178):=⟨hq_▸zi⟩;have n1_:ah (aG w w9 g none):=⟨hq_▸zk⟩;have n2_:ah (Below w0.heap.size w0 w9):=⟨hq_▸zw⟩;clear HI0 HK HB hq_;revert n0_ n1_ n2_;intro HI0 HK HB;(try (obtain ⟨ASq_,cSq_,HGq_,hgq_,HSq_⟩:=HI0.out;have hcq_0:=eX HGq_;have hfq_0:=aj HGq_ 0;have hcq_1:=dW HGq_;have hfq_1:=aj HGq_ 1;have hcq_2:=fK HGq_;have hfq_2:=aj HGq_ 2;have hcq_3:=fP HGq_;have hfq_3:=aj HGq_ 3;have hcq_4:=eH HGq_;have hfq_4:=aj HGq_ 4;clear HGq_ hgq_))));obtain ⟨ASz10_3,cSz10_3,HSz10_3,hcz10_0,hcz10_1,hcz10_2,hcz10_3,hcz10_4,hfz10_0,hfz10_1,hfz10_2,hfz10_4⟩:=zs HI0.out))
     go_ret
     exact ⟨zv,zi,zw,zk⟩
 · replace c4:=Bool.eq_false_iff.mpr c4
   subst c4
   rw [if_neg nofun] at H
   replace H:=zo H
   obtain ⟨t181,A11,H⟩:=H
   (try dsimp only at H)
   by_cases c12:t181=true
   · subst c12
     rw [if_pos rfl] at H
     replace H:=zyn H
     obtain ⟨c13b0,c13b1,H⟩:=H
     replace H:=zo H
     obtain ⟨t182,A14,H⟩:=H
     (try dsimp only at H)
     replace H:=zd H
     rcases H with ⟨c15b0,H⟩|⟨c15b0,H⟩
     · by_cases c16:t178=true
       · subst c16
         rw [if_pos rfl] at H
         simp only [Option.some.injEq,Prod.mk.injEq] at H
         obtain ⟨rfl,rfl,rfl,rfl,rfl⟩:=H
         go_enter Tryz.func160,Tryz.ntmps160
         go_wp2_with (first|(refine zc 7 rfl Tryz.func161 #[.pointer (some ⟨g,0,none⟩)] ?_;refine zj (dQ.calls g s0_0 s0_1 s0_2 s0_3 s0_4 t174 t175 t176 t177 true w0 _ zi zw A2.out) zk ?_;clear HK HB HI0;intro w17 HK HB HI0)|(refine zc 10 rfl Tryz.func72 #[.string t174,.string (⟨#[47,47]⟩:ByteArray)] ?_;refine za (strings_HasPrefix.calls t174 (⟨#[47,47]⟩:ByteArray) false _ A3.out) fun nd=> ?_;(try (rw [gG w17];generalize hq_:World.drewN w17 _=w17;have n0_:ah (bK w0 w17 g t175 t176 t177 s0_3 true):=⟨hq_▸zi⟩;have n1_:ah (aG w w17 g none):=⟨hq_▸zk⟩;have n2_:ah (Below w0.heap.size w0 w17):=⟨hq_▸zw⟩;clear HI0 HK HB hq_;revert n0_ n1_ n2_;intro HI0 HK HB;(try (obtain ⟨ASq_,cSq_,HGq_,hgq_,HSq_⟩:=HI0.out;have hcq_0:=eX HGq_;have hfq_0:=aj HGq_ 0;have hcq_1:=dW HGq_;have hfq_1:=aj HGq_ 1;have hcq_2:=fK HGq_;have hfq_2:=aj HGq_ 2;have hcq_3:=fP HGq_;have hfq_3:=aj HGq_ 3;have hcq_4:=eH HGq_;have hfq_4:=aj HGq_ 4;clear HGq_ hgq_)))))|(refine zc 27 rfl Tryz.func72 #[.string t174,.string (⟨#[47,42]⟩:ByteArray)] ?_;refine za (strings_HasPrefix.calls t174 (⟨#[47,42]⟩:ByteArray) true _ A11.out) fun nd=> ?_;(try (rw [gG w17];generalize hq_:World.drewN w17 _=w17;have n0_:ah (bK w0 w17 g t175 t176 t177 s0_3 true):=⟨hq_▸zi⟩;have n1_:ah (aG w w17 g none):=⟨hq_▸zk⟩;have n2_:ah (Below w0.heap.size w0 w17):=⟨hq_▸zw⟩;clear HI0 HK HB hq_;revert n0_ n1_ n2_;intro HI0 HK HB;(try (obtain ⟨ASq_,cSq_,HGq_,hgq_,HSq_⟩:=HI0.out;have hcq_0:=eX HGq_;have hfq_0:=aj HGq_ 0;have hcq_1:=dW HGq_;have hfq_1:=aj HGq_ 1;have hcq_2:=fK HGq_;have hfq_2:=aj HGq_ 2;have hcq_3:=fP HGq_;have hfq_3:=aj HGq_ 3;have hcq_4:=eH HGq_;have hfq_4:=aj HGq_ 4;clear HGq_ hgq_)))))|(refine zc 30 rfl Tryz.func185 #[.string (t174.extract 2 t174.size),.string (⟨#[42,47]⟩:ByteArray)] ?_;refine za (strings_Index.calls (t174.extract 2 t174.size) (⟨#[42,47]⟩:ByteArray) t182 _ A14.out (by first|exact hG_|exact hG_.below zw)) fun nd=> ?_;(try (rw [gG w17];generalize hq_:World.drewN w17 _=w17;have n0_:ah (bK w0 w17 g t175 t176 t177 s0_3 true):=⟨hq_▸zi⟩;have n1_:ah (aG w w17 g none):=⟨hq_▸zk⟩;have n2_:ah (Below w0.heap.size w0 w17):=⟨hq_▸zw⟩;clear HI0 HK HB hq_;revert n0_ n1_ n2_;intro HI0 HK HB;(try (obtain ⟨ASq_,cSq_,HGq_,hgq_,HSq_⟩:=HI0.out;have hcq_0:=eX HGq_;have hfq_0:=aj HGq_ 0;have hcq_1:=dW HGq_;have hfq_1:=aj HGq_ 1;have hcq_2:=fK HGq_;have hfq_2:=aj HGq_ 2;have hcq_3:=fP HGq_;have hfq_3:=aj HGq_ 3;have hcq_4:=eH HGq_;have hfq_4:=aj HGq_ 4;clear HGq_ hgq_))));obtain ⟨ASz18_3,cSz18_3,HSz18_3,hcz18_0,hcz18_1,hcz18_2,hcz18_3,hcz18_4,hfz18_0,hfz18_1,hfz18_2,hfz18_4⟩:=zs HI0.out))
         go_ret
         exact ⟨zv,zi,zw,zk⟩
       · replace c16:=Bool.eq_false_iff.mpr c16
         subst c16
         rw [if_neg nofun] at H
         replace H:=zyn H
         obtain ⟨c19b0,c19b1,H⟩:=H
         replace H:=zyn H
         obtain ⟨c20b0,c20b1,H⟩:=H
         replace H:=zo H
         obtain ⟨t183,A21,H⟩:=H
         (try dsimp only at H)
         simp only [Option.some.injEq,Prod.mk.injEq] at H
         obtain ⟨rfl,rfl,rfl,rfl,rfl⟩:=H
         go_enter Tryz.func160,Tryz.ntmps160
         go_wp2_with (first|(refine zc 7 rfl Tryz.func161 #[.pointer (some ⟨g,0,none⟩)] ?_;refine zj (dQ.calls g s0_0 s0_1 s0_2 s0_3 s0_4 t174 t175 t176 t177 false w0 _ zi zw A2.out) zk ?_;clear HK HB HI0;intro w22 HK HB HI0)|(refine zc 10 rfl Tryz.func72 #[.string t174,.string (⟨#[47,47]⟩:ByteArray)] ?_;refine za (strings_HasPrefix.calls t174 (⟨#[47,47]⟩:ByteArray) false _ A3.out) fun nd=> ?_;(try (rw [gG w22];generalize hq_:World.drewN w22 _=w22;have n0_:ah (bK w0 w22 g t175 t176 t177 s0_3 false):=⟨hq_▸zi⟩;have n1_:ah (aG w w22 g none):=⟨hq_▸zk⟩;have n2_:ah (Below w0.heap.size w0 w22):=⟨hq_▸zw⟩;clear HI0 HK HB hq_;revert n0_ n1_ n2_;intro HI0 HK HB;(try (obtain ⟨ASq_,cSq_,HGq_,hgq_,HSq_⟩:=HI0.out;have hcq_0:=eX HGq_;have hfq_0:=aj HGq_ 0;have hcq_1:=dW HGq_;have hfq_1:=aj HGq_ 1;have hcq_2:=fK HGq_;have hfq_2:=aj HGq_ 2;have hcq_3:=fP HGq_;have hfq_3:=aj HGq_ 3;have hcq_4:=eH HGq_;have hfq_4:=aj HGq_ 4;clear HGq_ hgq_)))))|(refine zc 27 rfl Tryz.func72 #[.string t174,.string (⟨#[47,42]⟩:ByteArray)] ?_;refine za (strings_HasPrefix.calls t174 (⟨#[47,42]⟩:ByteArray) true _ A11.out) fun nd=> ?_;(try (rw [gG w22];generalize hq_:World.drewN w22 _=w22;have n0_:ah (bK w0 w22 g t175 t176 t177 s0_3 false):=⟨hq_▸zi⟩;have n1_:ah (aG w w22 g none):=⟨hq_▸zk⟩;have n2_:ah (Below w0.heap.size w0 w22):=⟨hq_▸zw⟩;clear HI0 HK HB hq_;revert n0_ n1_ n2_;intro HI0 HK HB;(try (obtain ⟨ASq_,cSq_,HGq_,hgq_,HSq_⟩:=HI0.out;have hcq_0:=eX HGq_;have hfq_0:=aj HGq_ 0;have hcq_1:=dW HGq_;have hfq_1:=aj HGq_ 1;have hcq_2:=fK HGq_;have hfq_2:=aj HGq_ 2;have hcq_3:=fP HGq_;have hfq_3:=aj HGq_ 3;have hcq_4:=eH HGq_;have hfq_4:=aj HGq_ 4;clear HGq_ hgq_)))))|(refine zc 30 rfl Tryz.func185 #[.string (t174.extract 2 t174.size),.string (⟨#[42,47]⟩:ByteArray)] ?_;refine za (strings_Index.calls (t174.extract 2 t174.size) (⟨#[42,47]⟩:ByteArray) t182 _ A14.out (by first|exact hG_|exact hG_.below zw)) fun nd=> ?_;(try (rw [gG w22];generalize hq_:World.drewN w22 _=w22;have n0_:ah (bK w0 w22 g t175 t176 t177 s0_3 false):=⟨hq_▸zi⟩;have n1_:ah (aG w w22 g none):=⟨hq_▸zk⟩;have n2_:ah (Below w0.heap.size w0 w22):=⟨hq_▸zw⟩;clear HI0 HK HB hq_;revert n0_ n1_ n2_;intro HI0 HK HB;(try (obtain ⟨ASq_,cSq_,HGq_,hgq_,HSq_⟩:=HI0.out;have hcq_0:=eX HGq_;have hfq_0:=aj HGq_ 0;have hcq_1:=dW HGq_;have hfq_1:=aj HGq_ 1;have hcq_2:=fK HGq_;have hfq_2:=aj HGq_ 2;have hcq_3:=fP HGq_;have hfq_3:=aj HGq_ 3;have hcq_4:=eH HGq_;have hfq_4:=aj HGq_ 4;clear HGq_ hgq_))));obtain ⟨ASz23_3,cSz23_3,HSz23_3,hcz23_0,hcz23_1,hcz23_2,hcz23_3,hcz23_4,hfz23_0,hfz23_1,hfz23_2,hfz23_4⟩:=zs HI0.out)|(go_at_call 188;(with_reducible refine (strings_Contains.calls t174 (⟨#[10]⟩:ByteArray) t183 _ A21.out (by first|exact hG_|exact hG_.below zw)).mono ?_);rintro e w' ⟨rfl,⟨nd,rfl⟩⟩;(try (rw [gG w22];generalize hq_:World.drewN w22 _=w22;have n0_:ah (bK w0 w22 g t175 t176 t177 s0_3 false):=⟨hq_▸zi⟩;have n1_:ah (aG w w22 g none):=⟨hq_▸zk⟩;have n2_:ah (Below w0.heap.size w0 w22):=⟨hq_▸zw⟩;clear HI0 HK HB hq_;revert n0_ n1_ n2_;intro HI0 HK HB;(try (obtain ⟨ASq_,cSq_,HGq_,hgq_,HSq_⟩:=HI0.out;have hcq_0:=eX HGq_;have hfq_0:=aj HGq_ 0;have hcq_1:=dW HGq_;have hfq_1:=aj HGq_ 1;have hcq_2:=fK HGq_;have hfq_2:=aj HGq_ 2;have hcq_3:=fP HGq_;have hfq_3:=aj HGq_ 3;have hcq_4:=eH HGq_;have hfq_4:=aj HGq_ 4;clear HGq_ hgq_))))))
         go_ret
         exact ⟨zv,zi,zw,zk⟩
     · by_cases c24:t178=true
       · subst c24
         rw [if_pos rfl] at H
         simp only [Option.some.injEq,Prod.mk.injEq] at H
         obtain ⟨rfl,rfl,rfl,rfl,rfl⟩:=H
         go_enter Tryz.func160,Tryz.ntmps160
         go_wp2_with (first|(refine zc 7 rfl Tryz.func161 #[.pointer (some ⟨g,0,none⟩)] ?_;refine zj (dQ.calls g s0_0 s0_1 s0_2 s0_3 s0_4 t174 t175 t176 t177 true w0 _ zi zw A2.out) zk ?_;clear HK HB HI0;intro w25 HK HB HI0)|(refine zc 10 rfl Tryz.func72 #[.string t174,.string (⟨#[47,47]⟩:ByteArray)] ?_;refine za (strings_HasPrefix.calls t174 (⟨#[47,47]⟩:ByteArray) false _ A3.out) fun nd=> ?_;(try (rw [gG w25];generalize hq_:World.drewN w25 _=w25;have n0_:ah (bK w0 w25 g t175 t176 t177 s0_3 true):=⟨hq_▸zi⟩;have n1_:ah (aG w w25 g none):=⟨hq_▸zk⟩;have n2_:ah (Below w0.heap.size w0 w25):=⟨hq_▸zw⟩;clear HI0 HK HB hq_;revert n0_ n1_ n2_;intro HI0 HK HB;(try (obtain ⟨ASq_,cSq_,HGq_,hgq_,HSq_⟩:=HI0.out;have hcq_0:=eX HGq_;have hfq_0:=aj HGq_ 0;have hcq_1:=dW HGq_;have hfq_1:=aj HGq_ 1;have hcq_2:=fK HGq_;have hfq_2:=aj HGq_ 2;have hcq_3:=fP HGq_;have hfq_3:=aj HGq_ 3;have hcq_4:=eH HGq_;have hfq_4:=aj HGq_ 4;clear HGq_ hgq_)))))|(refine zc 27 rfl Tryz.func72 #[.string t174,.string (⟨#[47,42]⟩:ByteArray)] ?_;refine za (strings_HasPrefix.calls t174 (⟨#[47,42]⟩:ByteArray) true _ A11.out) fun nd=> ?_;(try (rw [gG w25];generalize hq_:World.drewN w25 _=w25;have n0_:ah (bK w0 w25 g t175 t176 t177 s0_3 true):=⟨hq_▸zi⟩;have n1_:ah (aG w w25 g none):=⟨hq_▸zk⟩;have n2_:ah (Below w0.heap.size w0 w25):=⟨hq_▸zw⟩;clear HI0 HK HB hq_;revert n0_ n1_ n2_;intro HI0 HK HB;(try (obtain ⟨ASq_,cSq_,HGq_,hgq_,HSq_⟩:=HI0.out;have hcq_0:=eX HGq_;have hfq_0:=aj HGq_ 0;have hcq_1:=dW HGq_;have hfq_1:=aj HGq_ 1;have hcq_2:=fK HGq_;have hfq_2:=aj HGq_ 2;have hcq_3:=fP HGq_;have hfq_3:=aj HGq_ 3;have hcq_4:=eH HGq_;have hfq_4:=aj HGq_ 4;clear HGq_ hgq_)))))|(refine zc 30 rfl Tryz.func185 #[.string (t174.extract 2 t174.size),.string (⟨#[42,47]⟩:ByteArray)] ?_;refine za (strings_Index.calls (t174.extract 2 t174.size) (⟨#[42,47]⟩:ByteArray) t182 _ A14.out (by first|exact hG_|exact hG_.below zw)) fun nd=> ?_;(try (rw [gG w25];generalize hq_:World.drewN w25 _=w25;have n0_:ah (bK w0 w25 g t175 t176 t177 s0_3 true):=⟨hq_▸zi⟩;have n1_:ah (aG w w25 g none):=⟨hq_▸zk⟩;have n2_:ah (Below w0.heap.size w0 w25):=⟨hq_▸zw⟩;clear HI0 HK HB hq_;revert n0_ n1_ n2_;intro HI0 HK HB;(try (obtain ⟨ASq_,cSq_,HGq_,hgq_,HSq_⟩:=HI0.out;have hcq_0:=eX HGq_;have hfq_0:=aj HGq_ 0;have hcq_1:=dW HGq_;have hfq_1:=aj HGq_ 1;have hcq_2:=fK HGq_;have hfq_2:=aj HGq_ 2;have hcq_3:=fP HGq_;have hfq_3:=aj HGq_ 3;have hcq_4:=eH HGq_;have hfq_4:=aj HGq_ 4;clear HGq_ hgq_))));obtain ⟨ASz26_3,cSz26_3,HSz26_3,hcz26_0,hcz26_1,hcz26_2,hcz26_3,hcz26_4,hfz26_0,hfz26_1,hfz26_2,hfz26_4⟩:=zs HI0.out))
         go_ret
         exact ⟨zv,zi,zw,zk⟩
       · replace c24:=Bool.eq_false_iff.mpr c24
         subst c24
         rw [if_neg nofun] at H
         generalize hji27:(wrap64 (t182+4))=ji27 at H
         (try rw [hji27] at c15b0)
         (try rw [hji27] at A2)
         (try rw [hji27] at A3)
         (try rw [hji27] at A11)
         (try rw [hji27] at A14)
         have hji27w:(IntKind.i64.wrap (t182+4))=ji27:=(dZ _).trans hji27
         replace H:=zyn H
         obtain ⟨c28b0,c28b1,H⟩:=H
         replace H:=zyn H
         obtain ⟨c29b0,c29b1,H⟩:=H
         replace H:=zo H
         obtain ⟨t184,A30,H⟩:=H
         (try dsimp only at H)
         simp only [Option.some.injEq,Prod.mk.injEq] at H
         obtain ⟨rfl,rfl,rfl,rfl,rfl⟩:=H
         go_enter Tryz.func160,Tryz.ntmps160
         go_wp2_with (first|(refine zc 7 rfl Tryz.func161 #[.pointer (some ⟨g,0,none⟩)] ?_;refine zj (dQ.calls g s0_0 s0_1 s0_2 s0_3 s0_4 t174 t175 t176 t177 false w0 _ zi zw A2.out) zk ?_;clear HK HB HI0;intro w31 HK HB HI0)|(refine zc 10 rfl Tryz.func72 #[.string t174,.string (⟨#[47,47]⟩:ByteArray)] ?_;refine za (strings_HasPrefix.calls t174 (⟨#[47,47]⟩:ByteArray) false _ A3.out) fun nd=> ?_;(try (rw [gG w31];generalize hq_:World.drewN w31 _=w31;have n0_:ah (bK w0 w31 g t175 t176 t177 s0_3 false):=⟨hq_▸zi⟩;have n1_:ah (aG w w31 g none):=⟨hq_▸zk⟩;have n2_:ah (Below w0.heap.size w0 w31):=⟨hq_▸zw⟩;clear HI0 HK HB hq_;revert n0_ n1_ n2_;intro HI0 HK HB;(try (obtain ⟨ASq_,cSq_,HGq_,hgq_,HSq_⟩:=HI0.out;have hcq_0:=eX HGq_;have hfq_0:=aj HGq_ 0;have hcq_1:=dW HGq_;have hfq_1:=aj HGq_ 1;have hcq_2:=fK HGq_;have hfq_2:=aj HGq_ 2;have hcq_3:=fP HGq_;have hfq_3:=aj HGq_ 3;have hcq_4:=eH HGq_;have hfq_4:=aj HGq_ 4;clear HGq_ hgq_)))))|(refine zc 27 rfl Tryz.func72 #[.string t174,.string (⟨#[47,42]⟩:ByteArray)] ?_;refine za (strings_HasPrefix.calls t174 (⟨#[47,42]⟩:ByteArray) true _ A11.out) fun nd=> ?_;(try (rw [gG w31];generalize hq_:World.drewN w31 _=w31;have n0_:ah (bK w0 w31 g t175 t176 t177 s0_3 false):=⟨hq_▸zi⟩;have n1_:ah (aG w w31 g none):=⟨hq_▸zk⟩;have n2_:ah (Below w0.heap.size w0 w31):=⟨hq_▸zw⟩;clear HI0 HK HB hq_;revert n0_ n1_ n2_;intro HI0 HK HB;(try (obtain ⟨ASq_,cSq_,HGq_,hgq_,HSq_⟩:=HI0.out;have hcq_0:=eX HGq_;have hfq_0:=aj HGq_ 0;have hcq_1:=dW HGq_;have hfq_1:=aj HGq_ 1;have hcq_2:=fK HGq_;have hfq_2:=aj HGq_ 2;have hcq_3:=fP HGq_;have hfq_3:=aj HGq_ 3;have hcq_4:=eH HGq_;have hfq_4:=aj HGq_ 4;clear HGq_ hgq_)))))|(refine zc 30 rfl Tryz.func185 #[.string (t174.extract 2 t174.size),.string (⟨#[42,47]⟩:ByteArray)] ?_;refine za (strings_Index.calls (t174.extract 2 t174.size) (⟨#[42,47]⟩:ByteArray) t182 _ A14.out (by first|exact hG_|exact hG_.below zw)) fun nd=> ?_;(try (rw [gG w31];generalize hq_:World.drewN w31 _=w31;have n0_:ah (bK w0 w31 g t175 t176 t177 s0_3 false):=⟨hq_▸zi⟩;have n1_:ah (aG w w31 g none):=⟨hq_▸zk⟩;have n2_:ah (Below w0.heap.size w0 w31):=⟨hq_▸zw⟩;clear HI0 HK HB hq_;revert n0_ n1_ n2_;intro HI0 HK HB;(try (obtain ⟨ASq_,cSq_,HGq_,hgq_,HSq_⟩:=HI0.out;have hcq_0:=eX HGq_;have hfq_0:=aj HGq_ 0;have hcq_1:=dW HGq_;have hfq_1:=aj HGq_ 1;have hcq_2:=fK HGq_;have hfq_2:=aj HGq_ 2;have hcq_3:=fP HGq_;have hfq_3:=aj HGq_ 3;have hcq_4:=eH HGq_;have hfq_4:=aj HGq_ 4;clear HGq_ hgq_))));obtain ⟨ASz32_3,cSz32_3,HSz32_3,hcz32_0,hcz32_1,hcz32_2,hcz32_3,hcz32_4,hfz32_0,hfz32_1,hfz32_2,hfz32_4⟩:=zs HI0.out)|(go_at_call 188;(with_reducible refine (strings_Contains.calls (t174.extract 0 ((ji27):Int).toNat) (⟨#[10]⟩:ByteArray) t184 _ A30.out (by first|exact hG_|exact hG_.below zw)).mono ?_);rintro e w' ⟨rfl,⟨nd,rfl⟩⟩;(try (rw [gG w31];generalize hq_:World.drewN w31 _=w31;have n0_:ah (bK w0 w31 g t175 t176 t177 s0_3 false):=⟨hq_▸zi⟩;have n1_:ah (aG w w31 g none):=⟨hq_▸zk⟩;have n2_:ah (Below w0.heap.size w0 w31):=⟨hq_▸zw⟩;clear HI0 HK HB hq_;revert n0_ n1_ n2_;intro HI0 HK HB;(try (obtain ⟨ASq_,cSq_,HGq_,hgq_,HSq_⟩:=HI0.out;have hcq_0:=eX HGq_;have hfq_0:=aj HGq_ 0;have hcq_1:=dW HGq_;have hfq_1:=aj HGq_ 1;have hcq_2:=fK HGq_;have hfq_2:=aj HGq_ 2;have hcq_3:=fP HGq_;have hfq_3:=aj HGq_ 3;have hcq_4:=eH HGq_;have hfq_4:=aj HGq_ 4;clear HGq_ hgq_))))))
         go_ret
         exact ⟨by first|rfl|(simp [errW_none,errW_some]<;>rfl)|(simp only [←hji27];first|rfl|(simp [errW_none,errW_some]<;>rfl))|(simp [*,errW_none,errW_some]<;>rfl),zi,zw,zk⟩
   · replace c12:=Bool.eq_false_iff.mpr c12
     subst c12
     rw [if_neg nofun] at H
     simp only [Option.some.injEq,Prod.mk.injEq] at H
     obtain ⟨rfl,rfl,rfl,rfl,rfl⟩:=H
     go_enter Tryz.func160,Tryz.ntmps160
     go_wp2_with (first|(refine zc 7 rfl Tryz.func161 #[.pointer (some ⟨g,0,none⟩)] ?_;refine zj (dQ.calls g s0_0 s0_1 s0_2 s0_3 s0_4 t174 t175 t176 t177 t178 w0 _ zi zw A2.out) zk ?_;clear HK HB HI0;intro w33 HK HB HI0)|(refine zc 10 rfl Tryz.func72 #[.string t174,.string (⟨#[47,47]⟩:ByteArray)] ?_;refine za (strings_HasPrefix.calls t174 (⟨#[47,47]⟩:ByteArray) false _ A3.out) fun nd=> ?_)|(refine zc 27 rfl Tryz.func72 #[.string t174,.string (⟨#[47,42]⟩:ByteArray)] ?_;refine za (strings_HasPrefix.calls t174 (⟨#[47,42]⟩:ByteArray) false _ A11.out) fun nd=> ?_))
     go_ret
     exact ⟨zv,zi,zw,zk⟩
mutual
def au.l0:Nat→Int→ByteArray→Int→Value→List ByteArray→Bool→Option (ByteArray × ByteArray × Int × Value × Bool)
 |0,_,_,_,_,_,_=>none
 |k+1,x3,x1000,x1001,x1002,x1003,x1004=>if x1001<(x1000.size:Int) then (if 0≤x1001 then (if (bt x1000 x1001)=10 then (au.l0 k x3 x1000 (wrap64 (x1001+1)) x1002 x1003 true) else (if (bt x1000 x1001)=32 then (au.j1 k x3 (bt x1000 x1001) true x1000 x1001 x1002 x1003 x1004) else (au.j1 k x3 (bt x1000 x1001) ((bt x1000 x1001)==9) x1000 x1001 x1002 x1003 x1004))) else (none)) else (if 0≤x3 then (if x3≤(x1000.size:Int) then (some (x1000.extract (x3:Int).toNat x1000.size,x1000,x1001,x1002,x1004)) else (none)) else (none))
def au.j1:Nat→Int→Int→Bool→ByteArray→Int→Value→List ByteArray→Bool→Option (ByteArray × ByteArray × Int × Value × Bool)
 |0,_,_,_,_,_,_,_,_=>none
 |k+1,x3,x4,x51,x1000,x1001,x1002,x1003,x1004=>if x51=true then (au.l0 k x3 x1000 (wrap64 (x1001+1)) x1002 x1003 x1004) else (if x4=11 then (au.j2 k x3 x4 true x1000 x1001 x1002 x1003 x1004) else (if x4=12 then (au.j2 k x3 x4 true x1000 x1001 x1002 x1003 x1004) else (au.j2 k x3 x4 (x4==13) x1000 x1001 x1002 x1003 x1004)))
def au.j2:Nat→Int→Int→Bool→ByteArray→Int→Value→List ByteArray→Bool→Option (ByteArray × ByteArray × Int × Value × Bool)
 |0,_,_,_,_,_,_,_,_=>none
 |k+1,x3,x4,x65,x1000,x1001,x1002,x1003,x1004=>if x65=true then (au.l0 k x3 x1000 (wrap64 (x1001+1)) x1002 x1003 false) else (if x4=92 then ((ay.f x1000 x1001 x1002 x1003 x1004 1).bind fun bt185=>(au.j3 k x3 x4 (bt185.1==10) bt185.2.1 bt185.2.2.1 bt185.2.2.2.1 x1003 bt185.2.2.2.2)) else (au.j3 k x3 x4 false x1000 x1001 x1002 x1003 x1004))
def au.j3:Nat→Int→Int→Bool→ByteArray→Int→Value→List ByteArray→Bool→Option (ByteArray × ByteArray × Int × Value × Bool)
 |0,_,_,_,_,_,_,_,_=>none
 |k+1,x3,x4,x86,x1000,x1001,x1002,x1003,x1004=>if x86=true then (au.l0 k x3 x1000 (wrap64 (x1001+2)) x1002 x1003 true) else (if x4=92 then ((ay.f x1000 x1001 x1002 x1003 x1004 1).bind fun bt190=>(if bt190.1=13 then ((ay.f bt190.2.1 bt190.2.2.1 bt190.2.2.2.1 x1003 bt190.2.2.2.2 2).bind fun bt195=>(au.j4 k x3 (bt195.1==10) bt195.2.1 bt195.2.2.1 bt195.2.2.2.1 x1003 bt195.2.2.2.2)) else (au.j4 k x3 false bt190.2.1 bt190.2.2.1 bt190.2.2.2.1 x1003 bt190.2.2.2.2))) else (au.j4 k x3 false x1000 x1001 x1002 x1003 x1004))
def au.j4:Nat→Int→Bool→ByteArray→Int→Value→List ByteArray→Bool→Option (ByteArray × ByteArray × Int × Value × Bool)
 |0,_,_,_,_,_,_,_=>none
 |k+1,x3,x104,x1000,x1001,x1002,x1003,x1004=>if x104=true then (au.l0 k x3 x1000 (wrap64 (x1001+3)) x1002 x1003 true) else ((dU.f x1000 x1001 x1002 x1003 x1004).bind fun bt200=>(if bt200.1=true then (au.l0 k x3 bt200.2.1 bt200.2.2.1 bt200.2.2.2.1 x1003 bt200.2.2.2.2) else (if 0≤x3 then (if x3≤bt200.2.2.1 then (if bt200.2.2.1≤(bt200.2.1.size:Int) then (some (bt200.2.1.extract (x3:Int).toNat (bt200.2.2.1:Int).toNat,bt200.2.1,bt200.2.2.1,bt200.2.2.2.1,bt200.2.2.2.2)) else (none)) else (none)) else (none))))
end
def au.f (k:Nat)(s0_0:ByteArray)(s0_1:Int)(s0_2:Value)(s0_3:List ByteArray)(s0_4:Bool):Option (ByteArray × ByteArray × Int × Value × Bool):=au.l0 k s0_1 s0_0 s0_1 s0_2 s0_3 s0_4
theorem au.calls (k:Nat)(g:Nat)(s0_0:ByteArray)(s0_1:Int)(s0_2:Value)(s0_3:List ByteArray)(s0_4:Bool)(r1:ByteArray)(r2:ByteArray)(r3:Int)(r4:Value)(r5:Bool)(w0 w:World)(hI:bK w0 w g s0_0 s0_1 s0_2 s0_3 s0_4)(hB:Below w0.heap.size w0 w)(h:au.f k s0_0 s0_1 s0_2 s0_3 s0_4=some (r1,r2,r3,r4,r5))(hG_:Glob w0):
 Calls Tryz.prog 118 #[.pointer (some ⟨g,0,none⟩)] w fun e w'=>e= .returned (.string r1)∧bK w0 w' g r2 r3 r4 s0_3 r5∧Below w0.heap.size w0 w'∧aG w w' g none:=by
 have HI0:=z0 hI
 have HK:=z0 (aG.refl w g none)
 have HL:=z0 hB.size
 clear hI
 have HW0:=z0 hB.size
 have HB:=z0 hB
 clear hB
 have H:=h
 clear h
 unfold au.f at H
 have H':=z0 H
 clear H
 obtain ⟨ASz2_3,cSz2_3,HSz2_3,hcz2_0,hcz2_1,hcz2_2,hcz2_3,hcz2_4,hfz2_0,hfz2_1,hfz2_2,hfz2_4⟩:=zs HI0.out
 go_enter Tryz.func118,Tryz.ntmps118
 go_wp2
 repeat (go_quiet (fail);try go_wp2)
 try go_simp
 go_loopg [] k (fun kq w'=>∃(x1000_1:ByteArray) (x1001_1:Int) (x1002_1:Value) (x1004_1:Bool),ah (au.l0 kq s0_1 x1000_1 x1001_1 x1002_1 s0_3 x1004_1=some (r1,r2,r3,r4,r5))∧ah (kq≤k)∧ah (bK w0 w' g x1000_1 x1001_1 x1002_1 s0_3 x1004_1)∧ah (aG w w' g none)∧ah (Below w0.heap.size w0 w'))
 case atStart=>exact ⟨(s0_0),(s0_1),(s0_2),(s0_4),H',⟨Nat.le_refl _⟩,⟨zi⟩,⟨zk⟩,⟨zw⟩⟩
 case round=>
  clear H'
  obtain ⟨x1000_1,x1001_1,x1002_1,x1004_1,HA,HK1,HI0,HK,HB⟩:=hrel
  cases gk with
  |zero=>exact absurd HA.out (by simp [au.l0])
  |succ k1=>
   have H:=HA.out
   clear HA
   simp only [au.l0] at H
   replace H:=zd H
   rcases H with ⟨c3b0,H⟩|⟨c3b0,H⟩
   · replace H:=zdn H
     obtain ⟨c4b0,H⟩:=H
     replace H:=ze H
     rcases H with ⟨c6b0,c6b1,H⟩|⟨c6b0,c6b1,H⟩
     · have H':=z0 H
       clear H
       obtain ⟨ASz7_3,cSz7_3,HSz7_3,hcz7_0,hcz7_1,hcz7_2,hcz7_3,hcz7_4,hfz7_0,hfz7_1,hfz7_2,hfz7_4⟩:=zs HI0.out
       obtain ⟨p5,q5,hx5⟩:=zb x1000_1 x1001_1
       go_wp2
       repeat (go_quiet (fail);try go_wp2)
       go_roundg k1
       case measure=>have:=HK1.out;omega
       case rel=>exact ⟨(x1000_1),(wrap64 (x1001_1+1)),(x1002_1),(true),H',⟨by have:=HK1.out;omega⟩,⟨zi⟩,⟨zk⟩,⟨zw⟩⟩
     · have HC8:=z0 H
       clear H
       obtain ⟨ASz9_3,cSz9_3,HSz9_3,hcz9_0,hcz9_1,hcz9_2,hcz9_3,hcz9_4,hfz9_0,hfz9_1,hfz9_2,hfz9_4⟩:=zs HI0.out
       obtain ⟨p5,q5,hx5⟩:=zb x1000_1 x1001_1
       go_upto_region 8 with (fail)
       repeat (go_quiet (fail);go_upto_region 8 with (fail))
       go_cut [51] (fun v51 wc=>∃(kq:Nat) (x51_7:Bool),v51= .bool x51_7∧ah (au.j1 kq s0_1 (bt x1000_1 x1001_1) x51_7 x1000_1 x1001_1 x1002_1 s0_3 x1004_1=some (r1,r2,r3,r4,r5))∧ah (kq≤k1)∧ah (bK w0 wc g x1000_1 x1001_1 x1002_1 s0_3 x1004_1)∧ah (aG w wc g none)∧ah (Below w0.heap.size w0 wc))
       case first=>
        have H:=HC8.out
        clear HC8
        replace H:=ze H
        rcases H with ⟨c10b0,c10b1,H⟩|⟨c10b0,c10b1,H⟩
        · (first|rw [c10b0]|(simp only [dZ,fG];rw [c10b0])|skip)
          have H':=z0 H
          clear H
          go_wp2
          repeat (go_quiet (fail);try go_wp2)
          go_meet
          case rel=>exact ⟨_,(true),zr,H',⟨by have:=HK1.out;first|omega|exact Nat.le_refl _⟩,⟨zi⟩,⟨zk⟩,⟨zw⟩⟩
        · (first|rw [c10b0]|(simp only [dZ,fG];rw [c10b0])|skip)
          have H':=z0 H
          clear H
          go_wp2
          repeat (go_quiet (fail);try go_wp2)
          go_meet
          case rel=>exact ⟨_,(((bt x1000_1 x1001_1)==9)),zr,H',⟨by have:=HK1.out;first|omega|exact Nat.le_refl _⟩,⟨zi⟩,⟨zk⟩,⟨zw⟩⟩
       case rest=>
        clear HC8
        obtain ⟨kq,x51_7,rfl,HA,HJ7,HI0,HK,HB⟩:=hcut
        cases kq with
        |zero=>exact absurd HA.out (by simp [au.j1])
        |succ kj7=>
         have H:=HA.out
         clear HA
         simp only [au.j1] at H
         by_cases c11:x51_7=true
         · subst c11
           rw [if_pos rfl] at H
           have H':=z0 H
           clear H
           obtain ⟨ASz12_3,cSz12_3,HSz12_3,hcz12_0,hcz12_1,hcz12_2,hcz12_3,hcz12_4,hfz12_0,hfz12_1,hfz12_2,hfz12_4⟩:=zs HI0.out
           go_wp2
           repeat (go_quiet (fail);try go_wp2)
           go_roundg kj7
           case measure=>have:=HK1.out;have:=HJ7.out;omega
           case rel=>exact ⟨(x1000_1),(wrap64 (x1001_1+1)),(x1002_1),(x1004_1),H',⟨by have:=HK1.out;have:=HJ7.out;omega⟩,⟨zi⟩,⟨zk⟩,⟨zw⟩⟩
         · replace c11:=Bool.eq_false_iff.mpr c11
           subst c11
           rw [if_neg nofun] at H
           have HC13:=z0 H
           clear H
           go_upto_region 10 with (fail)
           repeat (go_quiet (fail);go_upto_region 10 with (fail))
           go_cut [65] (fun v65 wc=>∃(kq:Nat) (x65_12:Bool),v65= .bool x65_12∧ah (au.j2 kq s0_1 (bt x1000_1 x1001_1) x65_12 x1000_1 x1001_1 x1002_1 s0_3 x1004_1=some (r1,r2,r3,r4,r5))∧ah (kq≤kj7)∧ah (bK w0 wc g x1000_1 x1001_1 x1002_1 s0_3 x1004_1)∧ah (aG w wc g none)∧ah (Below w0.heap.size w0 wc))
           case first=>
            have H:=HC13.out
            clear HC13
            replace H:=ze H
            rcases H with ⟨c14b0,c14b1,H⟩|⟨c14b0,c14b1,H⟩
            · (first|rw [c14b0]|(simp only [dZ,fG];rw [c14b0])|skip)
              have H':=z0 H
              clear H
              go_wp2
              repeat (go_quiet (fail);try go_wp2)
              go_meet
              case rel=>exact ⟨_,(true),zr,H',⟨by have:=HK1.out;have:=HJ7.out;first|omega|exact Nat.le_refl _⟩,⟨zi⟩,⟨zk⟩,⟨zw⟩⟩
            · (first|rw [c14b0]|(simp only [dZ,fG];rw [c14b0])|skip)
              replace H:=ze H
              rcases H with ⟨c15b0,c15b1,H⟩|⟨c15b0,c15b1,H⟩
              · have H':=z0 H
                clear H
                go_wp2
                repeat (go_quiet (fail);try go_wp2)
                go_meet
                case rel=>exact ⟨_,(true),zr,H',⟨by have:=HK1.out;have:=HJ7.out;first|omega|exact Nat.le_refl _⟩,⟨zi⟩,⟨zk⟩,⟨zw⟩⟩
              · have H':=z0 H
                clear H
                go_wp2
                repeat (go_quiet (fail);try go_wp2)
                go_meet
                case rel=>exact ⟨_,(((bt x1000_1 x1001_1)==13)),zr,H',⟨by have:=HK1.out;have:=HJ7.out;first|omega|exact Nat.le_refl _⟩,⟨zi⟩,⟨zk⟩,⟨zw⟩⟩
           case rest=>
            clear HC13
            obtain ⟨kq,x65_12,rfl,HA,HJ12,HI0,HK,HB⟩:=hcut
            cases kq with
            |zero=>exact absurd HA.out (by simp [au.j2])
            |succ kj12=>
             have H:=HA.out
             clear HA
             simp only [au.j2] at H
             by_cases c16:x65_12=true
             · subst c16
               rw [if_pos rfl] at H
               have H':=z0 H
               clear H
               obtain ⟨ASz17_3,cSz17_3,HSz17_3,hcz17_0,hcz17_1,hcz17_2,hcz17_3,hcz17_4,hfz17_0,hfz17_1,hfz17_2,hfz17_4⟩:=zs HI0.out
               go_wp2
               repeat (go_quiet (fail);try go_wp2)
               go_roundg kj12
               case measure=>have:=HK1.out;have:=HJ7.out;have:=HJ12.out;omega
               case rel=>exact ⟨(x1000_1),(wrap64 (x1001_1+1)),(x1002_1),(false),H',⟨by have:=HK1.out;have:=HJ7.out;have:=HJ12.out;omega⟩,⟨zi⟩,⟨zk⟩,⟨zw⟩⟩
             · replace c16:=Bool.eq_false_iff.mpr c16
               subst c16
               rw [if_neg nofun] at H
               have HC18:=z0 H
               clear H
               go_upto_region 13 with (fail)
               repeat (go_quiet (fail);go_upto_region 13 with (fail))
               go_cut [86] (fun v86 wc=>∃(kq:Nat) (x86_17:Bool) (x1000_17:ByteArray) (x1001_17:Int) (x1002_17:Value) (x1004_17:Bool),v86= .bool x86_17∧ah (au.j3 kq s0_1 (bt x1000_1 x1001_1) x86_17 x1000_17 x1001_17 x1002_17 s0_3 x1004_17=some (r1,r2,r3,r4,r5))∧ah (kq≤kj12)∧ah (bK w0 wc g x1000_17 x1001_17 x1002_17 s0_3 x1004_17)∧ah (aG w wc g none)∧ah (Below w0.heap.size w0 wc))
               case first=>
                have H:=HC18.out
                clear HC18
                replace H:=ze H
                rcases H with ⟨c19b0,c19b1,H⟩|⟨c19b0,c19b1,H⟩
                · (first|rw [c19b0]|(simp only [dZ,fG];rw [c19b0])|skip)
                  replace H:=zo H
                  obtain ⟨⟨t185,t186,t187,t188,t189⟩,A20,H⟩:=H
                  (try dsimp only at H)
                  have H':=z0 H
                  clear H
                  go_wp2_with (first|(go_at_call 159;(with_reducible refine (ay.calls g x1000_1 x1001_1 x1002_1 s0_3 x1004_1 1 t185 t186 t187 t188 t189 w0 _ ?side1 ?side2 A20.out).mono ?_);(case side1=>exact zi);(case side2=>exact zw);rintro e w21 ⟨rfl,hi,hb,hk⟩;have n0_:=z0 (aG.trans zk hk (.inl rfl));have n1_:=z0 (hb);have n2_:=z0 (hi);revert n0_ n1_ n2_;clear HK HB HI0;intro HK HB HI0;(try clear hb);(try clear hk);(try clear hi)))
                  repeat (go_quiet (first|(go_at_call 159;(with_reducible refine (ay.calls g x1000_1 x1001_1 x1002_1 s0_3 x1004_1 1 t185 t186 t187 t188 t189 w0 _ ?side1 ?side2 A20.out).mono ?_);(case side1=>exact zi);(case side2=>exact zw);rintro e w21 ⟨rfl,hi,hb,hk⟩;have n0_:=z0 (aG.trans zk hk (.inl rfl));have n1_:=z0 (hb);have n2_:=z0 (hi);revert n0_ n1_ n2_;clear HK HB HI0;intro HK HB HI0;(try clear hb);(try clear hk);(try clear hi)));try go_wp2)
                  go_meet
                  case rel=>exact ⟨_,((t185==10)),(t186),(t187),(t188),(t189),zr,H',⟨by have:=HK1.out;have:=HJ7.out;have:=HJ12.out;first|omega|exact Nat.le_refl _⟩,⟨zi⟩,⟨zk⟩,⟨zw⟩⟩
                · (first|rw [c19b0]|(simp only [dZ,fG];rw [c19b0])|skip)
                  have H':=z0 H
                  clear H
                  go_wp2
                  repeat (go_quiet (fail);try go_wp2)
                  go_meet
                  case rel=>exact ⟨_,(false),(x1000_1),(x1001_1),(x1002_1),(x1004_1),zr,H',⟨by have:=HK1.out;have:=HJ7.out;have:=HJ12.out;first|omega|exact Nat.le_refl _⟩,⟨zi⟩,⟨zk⟩,⟨zw⟩⟩
               case rest=>
                clear HC18
                obtain ⟨kq,x86_17,x1000_17,x1001_17,x1002_17,x1004_17,rfl,HA,HJ17,HI0,HK,HB⟩:=hcut
                cases kq with
                |zero=>exact absurd HA.out (by simp [au.j3])
                |succ kj17=>
                 have H:=HA.out
                 clear HA
                 simp only [au.j3] at H
                 by_cases c22:x86_17=true
                 · subst c22
                   rw [if_pos rfl] at H
                   have H':=z0 H
                   clear H
                   obtain ⟨ASz23_3,cSz23_3,HSz23_3,hcz23_0,hcz23_1,hcz23_2,hcz23_3,hcz23_4,hfz23_0,hfz23_1,hfz23_2,hfz23_4⟩:=zs HI0.out
                   go_wp2
                   repeat (go_quiet (fail);try go_wp2)
                   go_roundg kj17
                   case measure=>have:=HK1.out;have:=HJ7.out;have:=HJ12.out;have:=HJ17.out;omega
                   case rel=>exact ⟨(x1000_17),(wrap64 (x1001_17+2)),(x1002_17),(true),H',⟨by have:=HK1.out;have:=HJ7.out;have:=HJ12.out;have:=HJ17.out;omega⟩,⟨zi⟩,⟨zk⟩,⟨zw⟩⟩
                 · replace c22:=Bool.eq_false_iff.mpr c22
                   subst c22
                   rw [if_neg nofun] at H
                   have HC24:=z0 H
                   clear H
                   go_upto_region 16 with (fail)
                   repeat (go_quiet (fail);go_upto_region 16 with (fail))
                   go_cut [104] (fun v104 wc=>∃(kq:Nat) (x104_23:Bool) (x1000_23:ByteArray) (x1001_23:Int) (x1002_23:Value) (x1004_23:Bool),v104= .bool x104_23∧ah (au.j4 kq s0_1 x104_23 x1000_23 x1001_23 x1002_23 s0_3 x1004_23=some (r1,r2,r3,r4,r5))∧ah (kq≤kj17)∧ah (bK w0 wc g x1000_23 x1001_23 x1002_23 s0_3 x1004_23)∧ah (aG w wc g none)∧ah (Below w0.heap.size w0 wc))
                   case first=>
                    have H:=HC24.out
                    clear HC24
                    replace H:=ze H
                    rcases H with ⟨c25b0,c25b1,H⟩|⟨c25b0,c25b1,H⟩
                    · (first|rw [c25b0]|(simp only [dZ,fG];rw [c25b0])|skip)
                      replace H:=zo H
                      obtain ⟨⟨t190,t191,t192,t193,t194⟩,A26,H⟩:=H
                      (try dsimp only at H)
                      replace H:=ze H
                      rcases H with ⟨c27b0,c27b1,H⟩|⟨c27b0,c27b1,H⟩
                      · replace H:=zo H
                        obtain ⟨⟨t195,t196,t197,t198,t199⟩,A28,H⟩:=H
                        (try dsimp only at H)
                        have H':=z0 H
                        clear H
                        go_wp2_with (first|(go_at_call 159;(with_reducible refine (ay.calls g x1000_17 x1001_17 x1002_17 s0_3 x1004_17 1 t190 t191 t192 t193 t194 w0 _ ?side1 ?side2 A26.out).mono ?_);(case side1=>exact zi);(case side2=>exact zw);rintro e w29 ⟨rfl,hi,hb,hk⟩;have n0_:=z0 (aG.trans zk hk (.inl rfl));have n1_:=z0 (hb);have n2_:=z0 (hi);revert n0_ n1_ n2_;clear HK HB HI0;intro HK HB HI0;(try clear hb);(try clear hk);(try clear hi))|(go_at_call 159;(with_reducible refine (ay.calls g t191 t192 t193 s0_3 t194 2 t195 t196 t197 t198 t199 w0 _ ?side1 ?side2 A28.out).mono ?_);(case side1=>exact zi);(case side2=>exact zw);rintro e w30 ⟨rfl,hi,hb,hk⟩;have n0_:=z0 (aG.trans zk hk (.inl rfl));have n1_:=z0 (hb);have n2_:=z0 (hi);revert n0_ n1_ n2_;clear HK HB HI0;intro HK HB HI0;(try clear hb);(try clear hk);(try clear hi)))
                        repeat (go_quiet (first|(go_at_call 159;(with_reducible refine (ay.calls g x1000_17 x1001_17 x1002_17 s0_3 x1004_17 1 t190 t191 t192 t193 t194 w0 _ ?side1 ?side2 A26.out).mono ?_);(case side1=>exact zi);(case side2=>exact zw);rintro e w29 ⟨rfl,hi,hb,hk⟩;have n0_:=z0 (aG.trans zk hk (.inl rfl));have n1_:=z0 (hb);have n2_:=z0 (hi);revert n0_ n1_ n2_;clear HK HB HI0;intro HK HB HI0;(try clear hb);(try clear hk);(try clear hi))|(go_at_call 159;(with_reducible refine (ay.calls g t191 t192 t193 s0_3 t194 2 t195 t196 t197 t198 t199 w0 _ ?side1 ?side2 A28.out).mono ?_);(case side1=>exact zi);(case side2=>exact zw);rintro e w30 ⟨rfl,hi,hb,hk⟩;have n0_:=z0 (aG.trans zk hk (.inl rfl));have n1_:=z0 (hb);have n2_:=z0 (hi);revert n0_ n1_ n2_;clear HK HB HI0;intro HK HB HI0;(try clear hb);(try clear hk);(try clear hi)));try go_wp2)
                        go_meet
                        case rel=>exact ⟨_,((t195==10)),(t196),(t197),(t198),(t199),zr,H',⟨by have:=HK1.out;have:=HJ7.out;have:=HJ12.out;have:=HJ17.out;first|omega|exact Nat.le_refl _⟩,⟨zi⟩,⟨zk⟩,⟨zw⟩⟩
                      · have H':=z0 H
                        clear H
                        go_wp2_with (first|(go_at_call 159;(with_reducible refine (ay.calls g x1000_17 x1001_17 x1002_17 s0_3 x1004_17 1 t190 t191 t192 t193 t194 w0 _ ?side1 ?side2 A26.out).mono ?_);(case side1=>exact zi);(case side2=>exact zw);rintro e w31 ⟨rfl,hi,hb,hk⟩;have n0_:=z0 (aG.trans zk hk (.inl rfl));have n1_:=z0 (hb);have n2_:=z0 (hi);revert n0_ n1_ n2_;clear HK HB HI0;intro HK HB HI0;(try clear hb);(try clear hk);(try clear hi)))
                        repeat (go_quiet (first|(go_at_call 159;(with_reducible refine (ay.calls g x1000_17 x1001_17 x1002_17 s0_3 x1004_17 1 t190 t191 t192 t193 t194 w0 _ ?side1 ?side2 A26.out).mono ?_);(case side1=>exact zi);(case side2=>exact zw);rintro e w31 ⟨rfl,hi,hb,hk⟩;have n0_:=z0 (aG.trans zk hk (.inl rfl));have n1_:=z0 (hb);have n2_:=z0 (hi);revert n0_ n1_ n2_;clear HK HB HI0;intro HK HB HI0;(try clear hb);(try clear hk);(try clear hi)));try go_wp2)
                        go_meet
                        case rel=>exact ⟨_,(false),(t191),(t192),(t193),(t194),zr,H',⟨by have:=HK1.out;have:=HJ7.out;have:=HJ12.out;have:=HJ17.out;first|omega|exact Nat.le_refl _⟩,⟨zi⟩,⟨zk⟩,⟨zw⟩⟩
                    · (first|rw [c25b0]|(simp only [dZ,fG];rw [c25b0])|skip)
                      have H':=z0 H
                      clear H
                      go_wp2
                      repeat (go_quiet (fail);try go_wp2)
                      go_meet
                      case rel=>exact ⟨_,(false),(x1000_17),(x1001_17),(x1002_17),(x1004_17),zr,H',⟨by have:=HK1.out;have:=HJ7.out;have:=HJ12.out;have:=HJ17.out;first|omega|exact Nat.le_refl _⟩,⟨zi⟩,⟨zk⟩,⟨zw⟩⟩
                   case rest=>
                    clear HC24
                    obtain ⟨kq,x104_23,x1000_23,x1001_23,x1002_23,x1004_23,rfl,HA,HJ23,HI0,HK,HB⟩:=hcut
                    cases kq with
                    |zero=>exact absurd HA.out (by simp [au.j4])
                    |succ kj23=>
                     have H:=HA.out
                     clear HA
                     simp only [au.j4] at H
                     by_cases c32:x104_23=true
                     · subst c32
                       rw [if_pos rfl] at H
                       have H':=z0 H
                       clear H
                       obtain ⟨ASz33_3,cSz33_3,HSz33_3,hcz33_0,hcz33_1,hcz33_2,hcz33_3,hcz33_4,hfz33_0,hfz33_1,hfz33_2,hfz33_4⟩:=zs HI0.out
                       go_wp2
                       repeat (go_quiet (fail);try go_wp2)
                       go_roundg kj23
                       case measure=>have:=HK1.out;have:=HJ7.out;have:=HJ12.out;have:=HJ17.out;have:=HJ23.out;omega
                       case rel=>exact ⟨(x1000_23),(wrap64 (x1001_23+3)),(x1002_23),(true),H',⟨by have:=HK1.out;have:=HJ7.out;have:=HJ12.out;have:=HJ17.out;have:=HJ23.out;omega⟩,⟨zi⟩,⟨zk⟩,⟨zw⟩⟩
                     · replace c32:=Bool.eq_false_iff.mpr c32
                       subst c32
                       rw [if_neg nofun] at H
                       replace H:=zo H
                       obtain ⟨⟨t200,t201,t202,t203,t204⟩,A34,H⟩:=H
                       (try dsimp only at H)
                       by_cases c35:t200=true
                       · subst c35
                         rw [if_pos rfl] at H
                         have H':=z0 H
                         clear H
                         go_wp2_with (first|(go_at_call 160;(with_reducible refine (dU.calls g x1000_23 x1001_23 x1002_23 s0_3 x1004_23 true t201 t202 t203 t204 w0 _ ?side1 ?side2 A34.out hG_).mono ?_);(case side1=>exact zi);(case side2=>exact zw);rintro e w36 ⟨rfl,hi,hb,hk⟩;have n0_:=z0 (aG.trans zk hk (.inl rfl));have n1_:=z0 (hb);have n2_:=z0 (hi);revert n0_ n1_ n2_;clear HK HB HI0;intro HK HB HI0;(try clear hb);(try clear hk);(try clear hi)))
                         repeat (go_quiet (first|(go_at_call 160;(with_reducible refine (dU.calls g x1000_23 x1001_23 x1002_23 s0_3 x1004_23 true t201 t202 t203 t204 w0 _ ?side1 ?side2 A34.out hG_).mono ?_);(case side1=>exact zi);(case side2=>exact zw);rintro e w36 ⟨rfl,hi,hb,hk⟩;have n0_:=z0 (aG.trans zk hk (.inl rfl));have n1_:=z0 (hb);have n2_:=z0 (hi);revert n0_ n1_ n2_;clear HK HB HI0;intro HK HB HI0;(try clear hb);(try clear hk);(try clear hi)));try go_wp2)
                         go_roundg kj23
                         case measure=>have:=HK1.out;have:=HJ7.out;have:=HJ12.out;have:=HJ17.out;have:=HJ23.out;omega
                         case rel=>exact ⟨(t201),(t202),(t203),(t204),H',⟨by have:=HK1.out;have:=HJ7.out;have:=HJ12.out;have:=HJ17.out;have:=HJ23.out;omega⟩,⟨zi⟩,⟨zk⟩,⟨zw⟩⟩
                       · replace c35:=Bool.eq_false_iff.mpr c35
                         subst c35
                         rw [if_neg nofun] at H
                         replace H:=zyn H
                         obtain ⟨c37b0,c37b1,H⟩:=H
                         replace H:=zyn H
                         obtain ⟨c38b0,c38b1,H⟩:=H
                         replace H:=zyn H
                         obtain ⟨c39b0,c39b1,H⟩:=H
                         simp only [Option.some.injEq,Prod.mk.injEq] at H
                         obtain ⟨rfl,rfl,rfl,rfl,rfl⟩:=H
                         go_wp2_with (first|(go_at_call 160;(with_reducible refine (dU.calls g x1000_23 x1001_23 x1002_23 s0_3 x1004_23 false t201 t202 t203 t204 w0 _ ?side1 ?side2 A34.out hG_).mono ?_);(case side1=>exact zi);(case side2=>exact zw);rintro e w40 ⟨rfl,hi,hb,hk⟩;have n0_:=z0 (aG.trans zk hk (.inl rfl));have n1_:=z0 (hb);have n2_:=z0 (hi);revert n0_ n1_ n2_;clear HK HB HI0;intro HK HB HI0;(try clear hb);(try clear hk);(try clear hi);obtain ⟨ASz41_3,cSz41_3,HSz41_3,hcz41_0,hcz41_1,hcz41_2,hcz41_3,hcz41_4,hfz41_0,hfz41_1,hfz41_2,hfz41_4⟩:=zs HI0.out))
                         repeat (go_quiet (first|(go_at_call 160;(with_reducible refine (dU.calls g x1000_23 x1001_23 x1002_23 s0_3 x1004_23 false t201 t202 t203 t204 w0 _ ?side1 ?side2 A34.out hG_).mono ?_);(case side1=>exact zi);(case side2=>exact zw);rintro e w40 ⟨rfl,hi,hb,hk⟩;have n0_:=z0 (aG.trans zk hk (.inl rfl));have n1_:=z0 (hb);have n2_:=z0 (hi);revert n0_ n1_ n2_;clear HK HB HI0;intro HK HB HI0;(try clear hb);(try clear hk);(try clear hi);obtain ⟨ASz41_3,cSz41_3,HSz41_3,hcz41_0,hcz41_1,hcz41_2,hcz41_3,hcz41_4,hfz41_0,hfz41_1,hfz41_2,hfz41_4⟩:=zs HI0.out));try go_wp2)
                         go_ret
                         exact ⟨zv,zi,zw,zk⟩
   · replace H:=zyn H
     obtain ⟨c42b0,c42b1,H⟩:=H
     replace H:=zyn H
     obtain ⟨c43b0,c43b1,H⟩:=H
     simp only [Option.some.injEq,Prod.mk.injEq] at H
     obtain ⟨rfl,rfl,rfl,rfl,rfl⟩:=H
     obtain ⟨ASz44_3,cSz44_3,HSz44_3,hcz44_0,hcz44_1,hcz44_2,hcz44_3,hcz44_4,hfz44_0,hfz44_1,hfz44_2,hfz44_4⟩:=zs HI0.out
     go_wp2
     repeat (go_quiet (fail);try go_wp2)
     go_ret
     exact ⟨zv,zi,zw,zk⟩
end Go.Proofs.YtolaiebjmhieiaaGreatDoor.OScan
end
