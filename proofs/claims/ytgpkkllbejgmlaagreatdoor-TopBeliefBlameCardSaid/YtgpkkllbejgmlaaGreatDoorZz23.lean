import Derived.Shelf.Small.Bits
import Derived.Shelf.Strconv.Itoa0
import Derived.Shelf.Strconv.Itoa1
import Derived.Shelf.LaysM
import Derived.Shelf.Strconv.Itoa2
import Derived.Shelf.Strconv.Itoa3
import Derived.Shelf.Sort.Plain
import Derived.Shelf.Slices.In.SortNone
import Derived.Test.YtgpkkllbejgmlaaGreatDoorProg
import Derived.Test.YtgpkkllbejgmlaaGreatDoorZz14
import Derived.Test.YtgpkkllbejgmlaaGreatDoorTys
import Derived.Lib.ItoaLen
import Derived.Test.YtgpkkllbejgmlaaGreatDoorZz18
import Derived.Test.YtgpkkllbejgmlaaGreatDoorZz19
set_option linter.unusedSimpArgs false
set_option linter.unusedVariables false
set_option maxRecDepth 10000
section
namespace Go.Proofs
open Go.Shelf
def Tryz.lays125_ren:Go.Shelf.Ren:=⟨fun|125=>153|128=>180|129=>181|n=>n,fun|46=>206|3=>3|51=>282|53=>250|4=>4|5=>5|9=>9|n=>n,fun|n=>n⟩
theorem Tryz.lays125:Go.Proofs.Lays.n125 Tryz.prog Tryz.lays125_ren:={
 mixed:=by kernel_rfl
 f125:=Tryz.func153.trans (congrArg some (by kernel_rfl))
 f128:=Tryz.func180.trans (congrArg some (by kernel_rfl))
 f129:=Tryz.func181.trans (congrArg some (by kernel_rfl))
 t3:=Tryz.underlying3
 a3:=Tryz.isAgg3
 z3:=Tryz.sizeOf3
 v3:=Tryz.zeroValue3
 t4:=Tryz.underlying4
 a4:=Tryz.isAgg4
 z4:=Tryz.sizeOf4
 v4:=Tryz.zeroValue4
 t5:=Tryz.underlying5
 a5:=Tryz.isAgg5
 z5:=Tryz.sizeOf5
 v5:=Tryz.zeroValue5
 t9:=Tryz.underlying9
 a9:=Tryz.isAgg9
 z9:=Tryz.sizeOf9
 v9:=Tryz.zeroValue9
 t46:=Tryz.underlying206
 a46:=Tryz.isAgg206
 z46:=Tryz.sizeOf206
 v46:=Tryz.zeroValue206
 t51:=Tryz.underlying282
 a51:=Tryz.isAgg282
 z51:=Tryz.sizeOf282
 v51:=Tryz.zeroValue282
 t53:=Tryz.underlying250
 a53:=Tryz.isAgg250
 z53:=Tryz.sizeOf250
 v53:=Tryz.zeroValue250}
theorem Tryz.bits_Len (x:Int) (w:World) (h0:0≤x) (h1:x≤18446744073709551615):
  Calls Tryz.prog 153 #[.int .u64 x] w fun e w'=>e=.returned (.int .i64 (Lib.bitLen x.toNat))∧w'=w:=Any.bits_Len Tryz.lays125 x w h0 h1
def Tryz.lays283_ren:Go.Shelf.Ren:=⟨fun|283=>208|n=>n,fun|3=>3|9=>9|4=>4|n=>n,fun|n=>n⟩
theorem Tryz.lays283:Go.Proofs.Lays.n283 Tryz.prog Tryz.lays283_ren:={
 mixed:=by kernel_rfl
 f283:=Tryz.func208.trans (congrArg some (by kernel_rfl))
 t3:=Tryz.underlying3
 a3:=Tryz.isAgg3
 z3:=Tryz.sizeOf3
 v3:=Tryz.zeroValue3
 t4:=Tryz.underlying4
 a4:=Tryz.isAgg4
 z4:=Tryz.sizeOf4
 v4:=Tryz.zeroValue4
 t9:=Tryz.underlying9
 a9:=Tryz.isAgg9
 z9:=Tryz.sizeOf9
 v9:=Tryz.zeroValue9}
open Go.Lib in
theorem Tryz.internal_strconv_small (i:Nat) (h:i<100) (w:World):
  Calls Tryz.prog 208 #[.int .i64 i] w fun e w'=>e=.returned (.string ⟨(Lib.decDigits i).toArray⟩)∧w'=w:=Any.internal_strconv_small Tryz.lays283 i h w
def Tryz.laysM284_ren:Go.Shelf.Ren:=⟨fun|284=>209|129=>181|317=>223|318=>224|n=>n,fun|53=>250|3=>3|212=>314|0=>0|4=>4|46=>206|5=>5|9=>9|n=>n,fun|17=>0|n=>n⟩
theorem Tryz.laysM284:Go.Proofs.LaysM.n284 Tryz.prog Tryz.laysM284_ren:={
 mixed:=by kernel_rfl
 f129:=Tryz.func181.trans (congrArg some (by kernel_rfl))
 f284:=Tryz.func209.trans (congrArg some (by kernel_rfl))
 f317:=Tryz.func223.trans (congrArg some (by kernel_rfl))
 f318:=Tryz.func224.trans (congrArg some (by kernel_rfl))
 t0:=Tryz.underlying0
 a0:=Tryz.isAgg0
 z0:=Tryz.sizeOf0
 v0:=Tryz.zeroValue0
 t3:=Tryz.underlying3
 a3:=Tryz.isAgg3
 z3:=Tryz.sizeOf3
 v3:=Tryz.zeroValue3
 t4:=Tryz.underlying4
 a4:=Tryz.isAgg4
 z4:=Tryz.sizeOf4
 v4:=Tryz.zeroValue4
 t5:=Tryz.underlying5
 a5:=Tryz.isAgg5
 z5:=Tryz.sizeOf5
 v5:=Tryz.zeroValue5
 t9:=Tryz.underlying9
 a9:=Tryz.isAgg9
 z9:=Tryz.sizeOf9
 v9:=Tryz.zeroValue9
 t46:=Tryz.underlying206
 a46:=Tryz.isAgg206
 z46:=Tryz.sizeOf206
 v46:=Tryz.zeroValue206
 t53:=Tryz.underlying250
 a53:=Tryz.isAgg250
 z53:=Tryz.sizeOf250
 v53:=Tryz.zeroValue250
 t212:=Tryz.underlying314
 a212:=Tryz.isAgg314
 z212:=Tryz.sizeOf314
 v212:=Tryz.zeroValue314
 g17:=by kernel_rfl
 i0:=by kernel_rfl
 i3:=by kernel_rfl
 i4:=by kernel_rfl
 i5:=by kernel_rfl
 i9:=by kernel_rfl
 i46:=by kernel_rfl
 i53:=by kernel_rfl
 i212:=by kernel_rfl
 m17:=by kernel_rfl}
open Go.Lib in
theorem Tryz.internal_strconv_numDigits (u:Nat) (h1:1≤u) (h2:u<18446744073709551616) (w:World) (htab:Lib.TabIs Tryz.prog w "internal/strconv.uint64pow10" .u64 Lib.pow10Tab):
  Calls Tryz.prog 209 #[.int .u64 u] w fun e w'=>e=.returned (.int .i64 (Lib.nDigits u))∧w'=w:=Any.internal_strconv_numDigits Tryz.laysM284 u h1 h2 w htab
def Tryz.lays285_ren:Go.Shelf.Ren:=⟨fun|285=>210|n=>n,fun|37=>210|53=>250|3=>3|4=>4|51=>282|9=>9|5=>5|0=>0|n=>n,fun|n=>n⟩
theorem Tryz.lays285:Go.Proofs.Lays.n285 Tryz.prog Tryz.lays285_ren:={
 mixed:=by kernel_rfl
 f285:=Tryz.func210.trans (congrArg some (by kernel_rfl))
 t0:=Tryz.underlying0
 a0:=Tryz.isAgg0
 z0:=Tryz.sizeOf0
 v0:=Tryz.zeroValue0
 t3:=Tryz.underlying3
 a3:=Tryz.isAgg3
 z3:=Tryz.sizeOf3
 v3:=Tryz.zeroValue3
 t4:=Tryz.underlying4
 a4:=Tryz.isAgg4
 z4:=Tryz.sizeOf4
 v4:=Tryz.zeroValue4
 t5:=Tryz.underlying5
 a5:=Tryz.isAgg5
 z5:=Tryz.sizeOf5
 v5:=Tryz.zeroValue5
 t9:=Tryz.underlying9
 a9:=Tryz.isAgg9
 z9:=Tryz.sizeOf9
 v9:=Tryz.zeroValue9
 t37:=Tryz.underlying210
 a37:=Tryz.isAgg210
 z37:=Tryz.sizeOf210
 v37:=Tryz.zeroValue210
 t51:=Tryz.underlying282
 a51:=Tryz.isAgg282
 z51:=Tryz.sizeOf282
 v51:=Tryz.zeroValue282
 t53:=Tryz.underlying250
 a53:=Tryz.isAgg250
 z53:=Tryz.sizeOf250
 v53:=Tryz.zeroValue250}
open Go.RowKit Go.Sort Go.Lib in
theorem Tryz.internal_strconv_formatBase10 (blk off cap:Nat) (u:Nat) (d:Array UInt8) (w:World) (hH:Holds (fun(b:UInt8)=>Value.int .u8 (b.toNat:Int)) w blk off d) (hu:u<10^d.size) (hu64:u<18446744073709551616) (hsz:d.size<4611686018427387904):
  Calls Tryz.prog 210 #[.slice (some ⟨blk,off,none⟩) d.size cap,.int .u64 u] w fun e w'=>
   e=.returned (.tuple #[])∧∃(n v':Nat) (dk:Array UInt8),w'=(putRow (fun(b:UInt8)=>Value.int .u8 (b.toNat:Int)) w blk off dk).drewN n∧FmtInv d.size u 0 v' dk:=Any.internal_strconv_formatBase10 Tryz.lays285 blk off cap u d w hH hu hu64 hsz
def Tryz.laysM171_ren:Go.Shelf.Ren:=⟨fun|171=>101|243=>146|246=>170|283=>208|284=>209|285=>210|286=>211|129=>181|317=>223|318=>224|319=>225|320=>226|337=>229|338=>230|n=>n,fun|3=>3|9=>9|2=>2|4=>4|171=>299|0=>0|53=>250|37=>210|5=>5|173=>301|212=>314|51=>282|20=>20|213=>315|46=>206|232=>320|233=>321|n=>n,fun|17=>0|18=>1|19=>2|n=>n⟩
theorem Tryz.laysM171:Go.Proofs.LaysM.n171 Tryz.prog Tryz.laysM171_ren:={
 mixed:=by kernel_rfl
 f129:=Tryz.func181.trans (congrArg some (by kernel_rfl))
 f171:=Tryz.func101.trans (congrArg some (by kernel_rfl))
 f243:=Tryz.func146.trans (congrArg some (by kernel_rfl))
 f246:=Tryz.func170.trans (congrArg some (by kernel_rfl))
 f283:=Tryz.func208.trans (congrArg some (by kernel_rfl))
 f284:=Tryz.func209.trans (congrArg some (by kernel_rfl))
 f285:=Tryz.func210.trans (congrArg some (by kernel_rfl))
 f286:=Tryz.func211.trans (congrArg some (by kernel_rfl))
 f317:=Tryz.func223.trans (congrArg some (by kernel_rfl))
 f318:=Tryz.func224.trans (congrArg some (by kernel_rfl))
 f319:=Tryz.func225.trans (congrArg some (by kernel_rfl))
 f320:=Tryz.func226.trans (congrArg some (by kernel_rfl))
 f337:=Tryz.func229.trans (congrArg some (by kernel_rfl))
 f338:=Tryz.func230.trans (congrArg some (by kernel_rfl))
 t0:=Tryz.underlying0
 a0:=Tryz.isAgg0
 z0:=Tryz.sizeOf0
 v0:=Tryz.zeroValue0
 t2:=Tryz.underlying2
 a2:=Tryz.isAgg2
 z2:=Tryz.sizeOf2
 v2:=Tryz.zeroValue2
 t3:=Tryz.underlying3
 a3:=Tryz.isAgg3
 z3:=Tryz.sizeOf3
 v3:=Tryz.zeroValue3
 t4:=Tryz.underlying4
 a4:=Tryz.isAgg4
 z4:=Tryz.sizeOf4
 v4:=Tryz.zeroValue4
 t5:=Tryz.underlying5
 a5:=Tryz.isAgg5
 z5:=Tryz.sizeOf5
 v5:=Tryz.zeroValue5
 t9:=Tryz.underlying9
 a9:=Tryz.isAgg9
 z9:=Tryz.sizeOf9
 v9:=Tryz.zeroValue9
 t20:=Tryz.underlying20
 a20:=Tryz.isAgg20
 z20:=Tryz.sizeOf20
 v20:=Tryz.zeroValue20
 t37:=Tryz.underlying210
 a37:=Tryz.isAgg210
 z37:=Tryz.sizeOf210
 v37:=Tryz.zeroValue210
 t46:=Tryz.underlying206
 a46:=Tryz.isAgg206
 z46:=Tryz.sizeOf206
 v46:=Tryz.zeroValue206
 t51:=Tryz.underlying282
 a51:=Tryz.isAgg282
 z51:=Tryz.sizeOf282
 v51:=Tryz.zeroValue282
 t53:=Tryz.underlying250
 a53:=Tryz.isAgg250
 z53:=Tryz.sizeOf250
 v53:=Tryz.zeroValue250
 t171:=Tryz.underlying299
 a171:=Tryz.isAgg299
 z171:=Tryz.sizeOf299
 v171:=Tryz.zeroValue299
 t173:=Tryz.underlying301
 a173:=Tryz.isAgg301
 z173:=Tryz.sizeOf301
 v173:=Tryz.zeroValue301
 t212:=Tryz.underlying314
 a212:=Tryz.isAgg314
 z212:=Tryz.sizeOf314
 v212:=Tryz.zeroValue314
 t213:=Tryz.underlying315
 a213:=Tryz.isAgg315
 z213:=Tryz.sizeOf315
 t232:=Tryz.underlying320
 a232:=Tryz.isAgg320
 z232:=Tryz.sizeOf320
 v232:=Tryz.zeroValue320
 t233:=Tryz.underlying321
 a233:=Tryz.isAgg321
 z233:=Tryz.sizeOf321
 v233:=Tryz.zeroValue321
 g17:=by kernel_rfl
 g18:=by kernel_rfl
 g19:=by kernel_rfl
 i0:=by kernel_rfl
 i2:=by kernel_rfl
 i3:=by kernel_rfl
 i4:=by kernel_rfl
 i5:=by kernel_rfl
 i9:=by kernel_rfl
 i20:=by kernel_rfl
 i37:=by kernel_rfl
 i46:=by kernel_rfl
 i51:=by kernel_rfl
 i53:=by kernel_rfl
 i171:=by kernel_rfl
 i173:=by kernel_rfl
 i212:=by kernel_rfl
 i232:=by kernel_rfl
 i233:=by kernel_rfl
 m17:=by kernel_rfl
 m18:=by kernel_rfl
 m19:=by kernel_rfl}
open Go.RowKit Go.Sort Go.Lib in
theorem Tryz.strconv_Itoa (n:Int) (h0:-9223372036854775808≤n) (h1:n≤9223372036854775807) (w:World) (htab:Lib.TabIs Tryz.prog w "internal/strconv.uint64pow10" .u64 Lib.pow10Tab):
  Calls Tryz.prog 101 #[.int .i64 n] w fun e w'=>e=.returned (.string ⟨(Lib.itoa n).toArray⟩)∧∃k os,w'=grow (w.drewN k) os:=Any.strconv_Itoa Tryz.laysM171 n h0 h1 w htab
def Tryz.lays190_ren:Go.Shelf.Ren:=⟨fun|190=>113|125=>153|258=>152|128=>180|129=>181|302=>171|303=>172|304=>173|305=>174|306=>175|307=>176|308=>177|309=>178|310=>179|333=>212|329=>213|330=>214|334=>215|335=>216|336=>217|344=>227|n=>n,fun|31=>146|9=>9|3=>3|46=>206|0=>0|51=>282|53=>250|4=>4|183=>275|182=>274|131=>130|5=>5|218=>303|222=>307|228=>316|229=>317|n=>n,fun|n=>n⟩
theorem Tryz.lays190:Go.Proofs.Lays.n190 Tryz.prog Tryz.lays190_ren:={
 mixed:=by kernel_rfl
 f125:=Tryz.func153.trans (congrArg some (by kernel_rfl))
 f128:=Tryz.func180.trans (congrArg some (by kernel_rfl))
 f129:=Tryz.func181.trans (congrArg some (by kernel_rfl))
 f190:=Tryz.func113.trans (congrArg some (by kernel_rfl))
 f258:=Tryz.func152.trans (congrArg some (by kernel_rfl))
 f302:=Tryz.func171.trans (congrArg some (by kernel_rfl))
 f303:=Tryz.func172.trans (congrArg some (by kernel_rfl))
 f304:=Tryz.func173.trans (congrArg some (by kernel_rfl))
 f305:=Tryz.func174.trans (congrArg some (by kernel_rfl))
 f306:=Tryz.func175.trans (congrArg some (by kernel_rfl))
 f307:=Tryz.func176.trans (congrArg some (by kernel_rfl))
 f308:=Tryz.func177.trans (congrArg some (by kernel_rfl))
 f309:=Tryz.func178.trans (congrArg some (by kernel_rfl))
 f310:=Tryz.func179.trans (congrArg some (by kernel_rfl))
 f329:=Tryz.func213.trans (congrArg some (by kernel_rfl))
 f330:=Tryz.func214.trans (congrArg some (by kernel_rfl))
 f333:=Tryz.func212.trans (congrArg some (by kernel_rfl))
 f334:=Tryz.func215.trans (congrArg some (by kernel_rfl))
 f335:=Tryz.func216.trans (congrArg some (by kernel_rfl))
 f336:=Tryz.func217.trans (congrArg some (by kernel_rfl))
 f344:=Tryz.func227.trans (congrArg some (by kernel_rfl))
 t0:=Tryz.underlying0
 a0:=Tryz.isAgg0
 z0:=Tryz.sizeOf0
 v0:=Tryz.zeroValue0
 t3:=Tryz.underlying3
 a3:=Tryz.isAgg3
 z3:=Tryz.sizeOf3
 v3:=Tryz.zeroValue3
 t4:=Tryz.underlying4
 a4:=Tryz.isAgg4
 z4:=Tryz.sizeOf4
 v4:=Tryz.zeroValue4
 t5:=Tryz.underlying5
 a5:=Tryz.isAgg5
 z5:=Tryz.sizeOf5
 v5:=Tryz.zeroValue5
 t9:=Tryz.underlying9
 a9:=Tryz.isAgg9
 z9:=Tryz.sizeOf9
 v9:=Tryz.zeroValue9
 t31:=Tryz.underlying146
 a31:=Tryz.isAgg146
 z31:=Tryz.sizeOf146
 v31:=Tryz.zeroValue146
 t46:=Tryz.underlying206
 a46:=Tryz.isAgg206
 z46:=Tryz.sizeOf206
 v46:=Tryz.zeroValue206
 t51:=Tryz.underlying282
 a51:=Tryz.isAgg282
 z51:=Tryz.sizeOf282
 v51:=Tryz.zeroValue282
 t53:=Tryz.underlying250
 a53:=Tryz.isAgg250
 z53:=Tryz.sizeOf250
 v53:=Tryz.zeroValue250
 t131:=Tryz.underlying130
 a131:=Tryz.isAgg130
 z131:=Tryz.sizeOf130
 v131:=Tryz.zeroValue130
 t182:=Tryz.underlying274
 a182:=Tryz.isAgg274
 z182:=Tryz.sizeOf274
 v182:=Tryz.zeroValue274
 t183:=Tryz.underlying275
 a183:=Tryz.isAgg275
 z183:=Tryz.sizeOf275
 v183:=Tryz.zeroValue275
 t218:=Tryz.underlying303
 a218:=Tryz.isAgg303
 z218:=Tryz.sizeOf303
 v218:=Tryz.zeroValue303
 t222:=Tryz.underlying307
 a222:=Tryz.isAgg307
 z222:=Tryz.sizeOf307
 v222:=Tryz.zeroValue307
 t228:=Tryz.underlying316
 a228:=Tryz.isAgg316
 z228:=Tryz.sizeOf316
 v228:=Tryz.zeroValue316
 t229:=Tryz.underlying317
 a229:=Tryz.isAgg317
 z229:=Tryz.sizeOf317
 v229:=Tryz.zeroValue317}
open Go.Sort Go.RowKit in
theorem Tryz.slices_Sort_string (blk off cap:Nat) (ss:List (List UInt8)) (w:World) (hH:Holds encStr w blk off ss.toArray) (hblk:blk<w.heap.size) (hsz:ss.length<4611686018427387904):
  Calls Tryz.prog 113 #[.slice (some ⟨blk,off,none⟩) ss.length cap] w fun e w'=>
   e=.returned (.tuple #[])∧∃n os,w'=grow (putRow encStr (Sort.ahead w n) blk off (ss.mergeSort fun x y=>decide (x≤y)).toArray) os:=Any.slices_Sort_string Tryz.lays190 blk off cap ss w hH hblk hsz
open Go.RowKit Go.Sort in
theorem Tryz.slices_Sort_string_none (p:Option Addr) (cap:Nat) (w:World):
  Calls Tryz.prog 113 #[.slice p 0 cap] w fun e w'=>e=.returned (.tuple #[])∧w'=w:=Any.slices_Sort_string_none Tryz.lays190 p cap w
end Go.Proofs
end
namespace Go.Proofs.YtgpkkllbejgmlaaGreatDoor
section
open Go.Eng Go.RowKit Go.Lib Go.Sort
theorem Does.of_gl {P:Program} {f:FuncId} {args:List Value} {v:Value} (hf:FnOk P f) (h:∀w G,GlIn w G→Calls P f args.toArray w fun e w'=>e=.returned v∧Keep (fun _=>False) w w'):Does P f (args.map AV.c) (.c v):=by
 refine⟨hf,fun w G vs hs hG hgl ha=>?_⟩
 have:vs=args.toArray:=by
  apply Array.ext
  ·simpa using hs
  ·intro i h1 h2
   have hx:(args.map AV.c)[i]?=some (.c args[i]):=by simp at h2;simp[h2]
   have e:=(ha i _ hx).c_inv
   simpa[h1] using e
 subst this
 refine(h w G hgl).mono ?_
 rintro e w' ⟨rfl,hk⟩
 exact⟨v,rfl,hk,.c⟩
theorem Keep.of_grow (w:World) (k:Nat) (os:Array Obj):Keep (fun _=>False) w (grow (w.drewN k) os):=
 ⟨rfl,rfl,rfl,by simp[grow,World.drewN],fun b hb _=>by simp[grow,World.drewN,Array.getElem?_append_left hb],fun _=>by simp[grow,World.drewN]⟩
def pow10V:List Value:=(List.range 20).map fun i=>.int .u64 ((10^i:Nat):Int)
theorem tabIs {w:World} {G:Nat→Prop} (h:GlIn w G):Lib.TabIs Tryz.prog w "internal/strconv.uint64pow10" .u64 Lib.pow10Tab:=by
 obtain⟨_,t,fz,hh⟩:=h (0,pow10V) (glF_mem (by rfl))
 have hg:Tryz.prog.globalNamed "internal/strconv.uint64pow10" =some 0:=by kernel_rfl
 have hl:pow10V=Lib.pow10Tab.map fun z=>Value.int .u64 z:=by rfl
 simp only[Lib.TabIs,World.var?,hg,Option.bind_some,hh,hl]
def itoaS (n:Int):Value:=.string ⟨(Lib.itoa n).toArray⟩
theorem itoa_ok (n:Int) (h0:-9223372036854775808≤n) (h1:n≤9223372036854775807):Does Tryz.prog 101 [.c (.int .i64 n)] (.c (itoaS n)):=
 Does.of_gl (args:=[.int .i64 n]) ⟨_,Tryz.func101,rfl,by kernel_rfl⟩ fun w G hgl=>(Tryz.strconv_Itoa n h0 h1 w (tabIs hgl)).mono fun e w' ⟨h,k,os,hw⟩=>⟨h,hw▸Keep.of_grow w k os⟩
end
section
open Go.Eng Go.RowKit Go.Lib Go.Sort
theorem small_ok (i:Nat) (h:i<100):Does Tryz.prog 208 [.c (.int .i64 i)] (.c (.string ⟨(Lib.decDigits i).toArray⟩)):=
 Does.of_gl (args:=[.int .i64 i]) ⟨_,Tryz.func208,rfl,by kernel_rfl⟩ fun w G hgl=>(Tryz.internal_strconv_small i h w).mono fun e w' ⟨h,hw⟩=>⟨h,hw▸Keep.refl _ _⟩
theorem numDigits_ok (u:Nat) (h1:1≤u) (h2:u<18446744073709551616):Does Tryz.prog 209 [.c (.int .u64 u)] (.c (.int .i64 (Lib.nDigits u))):=
 Does.of_gl (args:=[.int .u64 u]) ⟨_,Tryz.func209,rfl,by kernel_rfl⟩ fun w G hgl=>(Tryz.internal_strconv_numDigits u h1 h2 w (tabIs hgl)).mono fun e w' ⟨h,hw⟩=>⟨h,hw▸Keep.refl _ _⟩
def byC (b:UInt8):List AV:=[.c (.int .u8 b.toNat)]
def digF (u:Nat):Nat→List AV:=fun i=>byC ((Lib.decDigits u).getD i 0)
theorem byteTy:ByteTy TT 210 5:=⟨⟨_,rfl,rfl⟩,⟨_,rfl,rfl,rfl,rfl,rfl⟩⟩
theorem appendUint1_ok (u:Nat) (hu:u<100) (n:Nat) (hn:n≤1000000) (f:Nat→List AV):
  DoesM Tryz.prog 182 [.vec 0 0,.c (.int .u64 u),.c (.int .i64 10)] [.vec 5 1 0 n f] (.vec 0 1) [.vec 5 1 1 (n+(Lib.decDigits u).length) (catF n f (digF u))]:=by
 have hl:(Lib.decDigits u).length≤20:=by
  rw[decDigits_length]
  exact Lib.nDigits_le20 u (by omega)
 refine DoesM.mk (fun _=>false) 100 TT_ok Tryz.func182 rfl (by kernel_rfl) Tryz.ntmps182 rfl rfl rfl fun E hT hE hN hR=>?_
 have hm:=mixO hE
 refine XK.w ?_
 refine XK.c ?_ ?_<;>intro h1<;>try simp at h1
 refine XK.c ?_ ?_<;>intro h2<;>try simp at h2
 ·refine XK.r ?_
  refine XL.callLA hE rfl rfl rfl rfl trivial rfl (small_ok u hu) rfl ?_
  refine XL.appendStr hT rfl rfl rfl rfl byteTy rfl rfl rfl rfl rfl ?_ ?_
  ·show n+(Lib.decDigits u).toArray.size≤_
   simp;omega
  refine XL.e ?_
  refine XK.t [0] ?_ ?_
  ·exact frI
  ·exact frI
 ·exact absurd h2 (by simp;omega)
theorem appendUint2_ok (u:Nat) (hu:100≤u) (hu2:u<18446744073709551616) (n:Nat) (hn:n≤1000000) (f:Nat→List AV):
  DoesM Tryz.prog 182 [.vec 0 0,.c (.int .u64 u),.c (.int .i64 10)] [.vec 5 1 0 n f] (.vec 0 1) [.vec 5 1 1 (n+(Lib.decDigits u).length) (catF n f (digF u))]:=by
 have hl:Lib.nDigits u≤20:=Lib.nDigits_le20 u hu2
 have hd:(Lib.decDigits u).length=Lib.nDigits u:=decDigits_length u
 have catE:∀g:Nat→List AV,∀i,i<n+Lib.nDigits u→catF n f (digF u) i=catF n f (fun i=>if i<Lib.nDigits u then[AV.c (.int .u8 ((Lib.decDigits u).getD i 0).toNat)] else g i) i:=fun g i hi=>by
  unfold catF
  cases hb:Nat.blt i n with
  |true=>rfl
  |false=>
   have hin:¬i<n:=fun hh=>by rw[show Nat.blt i n=true from Nat.ble_eq_true_of_le hh] at hb;cases hb
   rw[cond_false,cond_false];dsimp only;rw[if_pos (by omega)];rfl
 rw[hd]
 refine DoesM.mk (fun _=>false) 100 TT_ok Tryz.func182 rfl (by kernel_rfl) Tryz.ntmps182 rfl rfl rfl fun E hT hE hN hR=>?_
 have hm:=mixO hE
 refine XK.w ?_
 refine XK.c ?_ ?_<;>intro h1<;>try simp at h1
 refine XK.c ?_ ?_<;>intro h2<;>try simp at h2
 ·exact absurd h2 (by omega)
 refine XK.w ?_
 refine XK.r ?_
 refine XL.callLA hE rfl rfl rfl rfl trivial rfl (numDigits_ok u (by omega) hu2) rfl ?_
 refine XL.e ?_
 refine XK.region ?_
 refine XL.fmt10 (b:=fun _=>0) (n:=Lib.nDigits u) (u:=u) hT rfl rfl rfl rfl rfl rfl rfl rfl rfl rfl rfl rfl rfl (fun d hd=>?_) rfl rfl rfl rfl rfl rfl rfl rfl (fun i hi=>?_) (by omega) rfl (Lib.lt_pow_nDigits u) (by rw[hE];exact⟨_,Tryz.func210,rfl,by kernel_rfl⟩) (fun blk cap d w hH hsz=>?_) ?_
 ·injection hd with hd;subst hd;exact⟨by decide,by decide⟩
 ·(iterate 24 (rcases i with _|i;· rfl))
  omega
 ·rw[hE,←hsz]
  exact Tryz.internal_strconv_formatBase10 blk 0 cap u d w hH (by rw[hsz];exact Lib.lt_pow_nDigits u) hu2 (by omega)
 refine XL.fin ?_
 refine XK.r ?_
 refine XL.sliceOwn (k:=215) hT rfl rfl rfl rfl rfl rfl rfl rfl rfl rfl rfl hN rfl (by omega) (by decide) ?_
 refine XL.goA hT rfl rfl rfl rfl (ho:=⟨by omega,by show(n+Lib.nDigits u)*1≤_;omega,fun i hi=>by dsimp only;rw[if_pos hi];rfl⟩) ?_
 refine XL.fin ?_
 refine XK.t [0] ?_ ?_
 ·(repeat' (first|exact rfl|exact AvIs.refl _|exact trivial|exact fun _ _=>rfl|exact fun _ _=>⟨rfl,AvIs.refl _⟩|exact cI (by omega)|exact(catE _)|refine⟨?_,?_⟩))
 ·exact frI
theorem appendUint_ok (u:Nat) (hu2:u<18446744073709551616) (n:Nat) (hn:n≤1000000) (f:Nat→List AV):
  DoesM Tryz.prog 182 [.vec 0 0,.c (.int .u64 u),.c (.int .i64 10)] [.vec 5 1 0 n f] (.vec 0 1) [.vec 5 1 1 (n+(Lib.decDigits u).length) (catF n f (digF u))]:=by
 by_cases h:u<100
 ·exact appendUint1_ok u h n hn f
 ·exact appendUint2_ok u (by omega) hu2 n hn f
theorem appendUint1b_ok (u:Nat) (hu:u<100) (n:Nat) (hn:n≤1000000) (f:Nat→List AV):
  DoesM Tryz.prog 182 [.vec 0 1,.c (.int .u64 u),.c (.int .i64 10)] [.vec 5 1 1 n f] (.vec 0 2) [.vec 5 1 2 (n+(Lib.decDigits u).length) (catF n f (digF u))]:=by
 have hl:(Lib.decDigits u).length≤20:=by
  rw[decDigits_length]
  exact Lib.nDigits_le20 u (by omega)
 refine DoesM.mk (fun _=>false) 100 TT_ok Tryz.func182 rfl (by kernel_rfl) Tryz.ntmps182 rfl rfl rfl fun E hT hE hN hR=>?_
 have hm:=mixO hE
 refine XK.w ?_
 refine XK.c ?_ ?_<;>intro h1<;>try simp at h1
 refine XK.c ?_ ?_<;>intro h2<;>try simp at h2
 ·refine XK.r ?_
  refine XL.callLA hE rfl rfl rfl rfl trivial rfl (small_ok u hu) rfl ?_
  refine XL.appendStr hT rfl rfl rfl rfl byteTy rfl rfl rfl rfl rfl ?_ ?_
  ·show n+(Lib.decDigits u).toArray.size≤_
   simp;omega
  refine XL.e ?_
  refine XK.t [0] ?_ ?_
  ·exact frI
  ·exact frI
 ·exact absurd h2 (by simp;omega)
theorem appendUint2b_ok (u:Nat) (hu:100≤u) (hu2:u<18446744073709551616) (n:Nat) (hn:n≤1000000) (f:Nat→List AV):
  DoesM Tryz.prog 182 [.vec 0 1,.c (.int .u64 u),.c (.int .i64 10)] [.vec 5 1 1 n f] (.vec 0 2) [.vec 5 1 2 (n+(Lib.decDigits u).length) (catF n f (digF u))]:=by
 have hl:Lib.nDigits u≤20:=Lib.nDigits_le20 u hu2
 have hd:(Lib.decDigits u).length=Lib.nDigits u:=decDigits_length u
 have catE:∀g:Nat→List AV,∀i,i<n+Lib.nDigits u→catF n f (digF u) i=catF n f (fun i=>if i<Lib.nDigits u then[AV.c (.int .u8 ((Lib.decDigits u).getD i 0).toNat)] else g i) i:=fun g i hi=>by
  unfold catF
  cases hb:Nat.blt i n with
  |true=>rfl
  |false=>
   have hin:¬i<n:=fun hh=>by rw[show Nat.blt i n=true from Nat.ble_eq_true_of_le hh] at hb;cases hb
   rw[cond_false,cond_false];dsimp only;rw[if_pos (by omega)];rfl
 rw[hd]
 refine DoesM.mk (fun _=>false) 100 TT_ok Tryz.func182 rfl (by kernel_rfl) Tryz.ntmps182 rfl rfl rfl fun E hT hE hN hR=>?_
 have hm:=mixO hE
 refine XK.w ?_
 refine XK.c ?_ ?_<;>intro h1<;>try simp at h1
 refine XK.c ?_ ?_<;>intro h2<;>try simp at h2
 ·exact absurd h2 (by omega)
 refine XK.w ?_
 refine XK.r ?_
 refine XL.callLA hE rfl rfl rfl rfl trivial rfl (numDigits_ok u (by omega) hu2) rfl ?_
 refine XL.e ?_
 refine XK.region ?_
 refine XL.fmt10 (b:=fun _=>0) (n:=Lib.nDigits u) (u:=u) hT rfl rfl rfl rfl rfl rfl rfl rfl rfl rfl rfl rfl rfl (fun d hd=>?_) rfl rfl rfl rfl rfl rfl rfl rfl (fun i hi=>?_) (by omega) rfl (Lib.lt_pow_nDigits u) (by rw[hE];exact⟨_,Tryz.func210,rfl,by kernel_rfl⟩) (fun blk cap d w hH hsz=>?_) ?_
 ·injection hd with hd;subst hd;exact⟨by decide,by decide⟩
 ·(iterate 24 (rcases i with _|i;· rfl))
  omega
 ·rw[hE,←hsz]
  exact Tryz.internal_strconv_formatBase10 blk 0 cap u d w hH (by rw[hsz];exact Lib.lt_pow_nDigits u) hu2 (by omega)
 refine XL.fin ?_
 refine XK.r ?_
 refine XL.sliceOwn (k:=215) hT rfl rfl rfl rfl rfl rfl rfl rfl rfl rfl rfl hN rfl (by omega) (by decide) ?_
 refine XL.goA hT rfl rfl rfl rfl (ho:=⟨by omega,by show(n+Lib.nDigits u)*1≤_;omega,fun i hi=>by dsimp only;rw[if_pos hi];rfl⟩) ?_
 refine XL.fin ?_
 refine XK.t [0] ?_ ?_
 ·(repeat' (first|exact rfl|exact AvIs.refl _|exact trivial|exact fun _ _=>rfl|exact fun _ _=>⟨rfl,AvIs.refl _⟩|exact cI (by omega)|exact(catE _)|refine⟨?_,?_⟩))
 ·exact frI
theorem appendUintB_ok (u:Nat) (hu2:u<18446744073709551616) (n:Nat) (hn:n≤1000000) (f:Nat→List AV):
  DoesM Tryz.prog 182 [.vec 0 1,.c (.int .u64 u),.c (.int .i64 10)] [.vec 5 1 1 n f] (.vec 0 2) [.vec 5 1 2 (n+(Lib.decDigits u).length) (catF n f (digF u))]:=by
 by_cases h:u<100
 ·exact appendUint1b_ok u h n hn f
 ·exact appendUint2b_ok u (by omega) hu2 n hn f
theorem blt_no {a b:Nat} (h:b≤a):Nat.blt a b=false:=by
 cases hb:Nat.blt a b with
 |false=>rfl
 |true=>exact absurd (Nat.le_of_ble_eq_true hb) (by omega)
theorem blt_yes {a b:Nat} (h:a<b):Nat.blt a b=true:=Nat.ble_eq_true_of_le h
def itoaF (z:Int):Nat→List AV:=fun i=>byC ((Lib.itoa z).getD i 0)
theorem appendIntN_ok (u:Nat) (h1:1≤u) (h0:u≤9223372036854775808) (n:Nat) (hn:n≤999999) (f:Nat→List AV):
  DoesM Tryz.prog 158 [.vec 0 0,.c (.int .i64 (-(u:Int))),.c (.int .i64 10)] [.vec 5 1 0 n f] (.vec 0 2) [.vec 5 1 2 (n+(Lib.itoa (-(u:Int))).length) (catF n f (itoaF (-(u:Int))))]:=by
 have hwr:IntKind.u64.wrap (0-IntKind.u64.wrap (-(u:Int)))=(u:Int):=by rw[IntKind.wrap_u64,IntKind.wrap_u64];omega
 have hc:=appendUintB_ok u (by omega) (n+1) (by omega) (catF n f (rowOf [AV.c (.int .u8 45)] 1))
 have hit:=Lib.itoa_neg u (by omega)
 have hlen:n+(Lib.itoa (-(u:Int))).length=n+1+(Lib.decDigits u).length:=by rw[hit,List.length_cons];omega
 have catE:∀i,i<n+1+(Lib.decDigits u).length→catF n f (itoaF (-(u:Int))) i=catF (n+1) (catF n f (rowOf [AV.c (.int .u8 45)] 1)) (digF u) i:=fun i hi=>by
  unfold catF itoaF digF
  rw[hit]
  rcases Nat.lt_trichotomy i n with h|h|h
  ·rw[blt_yes h,blt_yes (show i<n+1 by omega)];rfl
  ·subst h
   rw[blt_no (Nat.le_refl i),blt_yes (Nat.lt_succ_self i),Nat.sub_self];rfl
  ·rw[blt_no (show n≤i by omega),blt_no (show n+1≤i by omega)]
   obtain⟨k,rfl⟩:∃k,i=n+1+k:=⟨i-(n+1),by omega⟩
   rw[show n+1+k-n=k+1 by omega,show n+1+k-(n+1)=k by omega];rfl
 rw[hlen]
 refine DoesM.mk (fun d=>Nat.beq d 9||Nat.beq d 16) 100 TT_ok Tryz.func158 rfl (by kernel_rfl) Tryz.ntmps158 rfl rfl rfl fun E hT hE hN hR=>?_
 have hm:=mixO hE
 refine XK.w ?_
 refine XK.c ?_ ?_<;>intro h2<;>try simp at h2
 ·refine XK.w ?_
  rw[hwr]
  refine XK.r ?_
  refine XL.callMA [0] hE rfl rfl rfl rfl trivial (hc) rfl rfl rfl rfl rfl ?_
  refine XL.e ?_
  refine XK.t [0] ?_ ?_
  ·(repeat' (first|exact rfl|exact AvIs.refl _|exact trivial|exact fun _ _=>rfl|exact fun _ _=>⟨rfl,AvIs.refl _⟩|exact cI (by omega)|exact(catE)|refine⟨?_,?_⟩))
  ·exact frI
 ·omega
theorem appendIntP_ok (u:Nat) (h0:u≤9223372036854775807) (n:Nat) (hn:n≤999999) (f:Nat→List AV):
  DoesM Tryz.prog 158 [.vec 0 0,.c (.int .i64 u),.c (.int .i64 10)] [.vec 5 1 0 n f] (.vec 0 2) [.vec 5 1 2 (n+(Lib.itoa u).length) (catF n f (itoaF u))]:=by
 have hwr:IntKind.u64.wrap (u:Int)=(u:Int):=by rw[IntKind.wrap_u64];omega
 have hc:=appendUint_ok u (by omega) n (by omega) f
 have hit:=Lib.itoa_nonneg u
 have he:itoaF u=digF u:=by funext i;unfold itoaF digF;rw[hit]
 rw[hit,he]
 refine DoesM.mk (fun d=>Nat.beq d 9||Nat.beq d 16) 100 TT_ok Tryz.func158 rfl (by kernel_rfl) Tryz.ntmps158 rfl rfl rfl fun E hT hE hN hR=>?_
 have hm:=mixO hE
 refine XK.w ?_
 refine XK.c ?_ ?_<;>intro h2<;>try simp at h2
 ·omega
 ·refine XK.w ?_
  rw[hwr]
  refine XK.r ?_
  refine XL.callMA [0] hE rfl rfl rfl rfl trivial (hc) rfl rfl rfl rfl rfl ?_
  refine XL.e ?_
  refine XK.weak (Weak.stamp (k:=0) (t:=2) hN rfl rfl) ?_
  refine XK.t [0] ?_ ?_
  ·exact frI
  ·exact frI
theorem appendIntI_ok (z:Int) (h0:-9223372036854775808≤z) (h1:z≤9223372036854775807) (n:Nat) (hn:n≤999999) (f:Nat→List AV):
  DoesM Tryz.prog 158 [.vec 0 0,.c (.int .i64 z),.c (.int .i64 10)] [.vec 5 1 0 n f] (.vec 0 2) [.vec 5 1 2 (n+(Lib.itoa z).length) (catF n f (itoaF z))]:=by
 by_cases hz:z<0
 ·obtain⟨u,rfl⟩:∃u:Nat,z=-(u:Int):=⟨z.natAbs,by omega⟩
  exact appendIntN_ok u (by omega) (by omega) n hn f
 ·obtain⟨u,rfl⟩:∃u:Nat,z=(u:Int):=⟨z.natAbs,by omega⟩
  exact appendIntP_ok u (by omega) n hn f
theorem appendInt_ok (z:Int) (h0:-9223372036854775808≤z) (h1:z≤9223372036854775807) (n:Nat) (hn:n≤999999) (f:Nat→List AV):
  DoesM Tryz.prog 129 [.vec 0 0,.c (.int .i64 z),.c (.int .i64 10)] [.vec 5 1 0 n f] (.vec 0 2) [.vec 5 1 2 (n+(Lib.itoa z).length) (catF n f (itoaF z))]:=by
 have hc:=appendIntI_ok z h0 h1 n hn f
 refine DoesM.mk (fun _=>false) 100 TT_ok Tryz.func129 rfl (by kernel_rfl) Tryz.ntmps129 rfl rfl rfl fun E hT hE hN hR=>?_
 have hm:=mixO hE
 refine XK.w ?_
 refine XK.r ?_
 refine XL.callMA [0] hE rfl rfl rfl rfl trivial (hc) rfl rfl rfl rfl rfl ?_
 refine XL.e ?_
 refine XK.t [0] ?_ ?_
 ·exact frI
 ·exact frI
end
section
open Go.Eng Go.RowKit Go.Lib
def isDig (c:UInt8):Prop:=48≤c.toNat∧c.toNat≤57
theorem dig_of {d:Nat} (h:d<10):isDig (UInt8.ofNat (48+d))∧(UInt8.ofNat (48+d)).toNat=48+d:=by
 have e:(UInt8.ofNat (48+d)).toNat=48+d:=by rw[UInt8.toNat_ofNat'];omega
 exact⟨by unfold isDig;rw[e];omega,e⟩
theorem dec_dig (u:Nat):∀c∈decDigits u,isDig c:=by
 induction u using Nat.strongRecOn with
 |ind u ih=>
  intro c hc
  rw[decDigits] at hc
  split at hc
  ·rw[List.mem_singleton.1 hc]
   exact(dig_of (by assumption)).1
  ·rcases List.mem_append.1 hc with h|h
   ·exact ih (u/10) (by omega) c h
   ·rw[List.mem_singleton.1 h]
    exact(dig_of (Nat.mod_lt _ (by omega))).1
def dval (l:List UInt8):Nat:=l.foldl (fun a c=>a*10+(c.toNat-48)) 0
theorem dval_dec (u:Nat):dval (decDigits u)=u:=by
 induction u using Nat.strongRecOn with
 |ind u ih=>
  rw[decDigits]
  split
  ·rename_i h
   simp only[dval,List.foldl_cons,List.foldl_nil,(dig_of h).2]
   omega
  ·have:=ih (u/10) (by omega)
   unfold dval at this ⊢
   rw[List.foldl_append,this]
   simp only[List.foldl_cons,List.foldl_nil,(dig_of (Nat.mod_lt u (show 0<10 by omega))).2]
   omega
theorem dec_inj {a b:Nat} (h:decDigits a=decDigits b):a=b:=by rw[←dval_dec a,h,dval_dec]
theorem dec_ne (u:Nat) (l:List UInt8):decDigits u≠45::l:=by
 intro h
 have:=dec_dig u 45 (by rw[h];exact List.mem_cons_self)
 exact absurd this.1 (by decide)
theorem itoa_inj {a b:Int} (h:itoa a=itoa b):a=b:=by
 unfold itoa at h
 split at h<;>split at h
 ·injection h with _ h
  have:=dec_inj h
  omega
 ·exact absurd h.symm (dec_ne _ _)
 ·exact absurd h (dec_ne _ _)
 ·have:=dec_inj h
  omega
theorem itoa_dig {n:Int} {c:UInt8} (h:c∈itoa n):c=45∨isDig c:=by
 unfold itoa at h
 split at h
 ·rcases List.mem_cons.1 h with h|h
  ·exact .inl h
  ·exact .inr (dec_dig _ _ h)
 ·exact .inr (dec_dig _ _ h)
theorem cut_at {s:UInt8}:∀{l l' r r':List UInt8},s∉l→s∉l'→l++s::r=l'++s::r'→l=l'∧r=r'
 |[],[],r,r',_,_,h=>by injection h with _ h;exact⟨rfl,h⟩
 |[],c::l',r,r',_,h2,h=>by injection h with h _;exact absurd (h▸List.mem_cons_self) h2
 |c::l,[],r,r',h1,_,h=>by injection h with h _;exact absurd (h▸List.mem_cons_self) h1
 |c::l,d::l',r,r',h1,h2,h=>by
  injection h with h h3
  subst h
  obtain⟨e1,e2⟩:=cut_at (fun q=>h1 (List.mem_cons_of_mem _ q)) (fun q=>h2 (List.mem_cons_of_mem _ q)) h3
  exact⟨by rw[e1],e2⟩
theorem num_cut {s:UInt8} (hs:s≠45∧¬isDig s) {a b:Int} {r r':List UInt8} (h:itoa a++s::r=itoa b++s::r'):a=b∧r=r':=by
 have n (z:Int):s∉itoa z:=fun q=>by
  rcases itoa_dig q with q|q
  ·exact hs.1 q
  ·exact hs.2 q
 obtain⟨e1,e2⟩:=cut_at (n a) (n b) h
 exact⟨itoa_inj e1,e2⟩
theorem blank_cut {a b:Int} {r r':List UInt8} (h:itoa a++32::r=itoa b++32::r'):a=b∧r=r':=num_cut ⟨by decide,fun h=>absurd h.1 (by decide)⟩ h
end
section
open Go.Eng Go.RowKit Go.Lib
def fgB (b:Bool):UInt8:=if b then 43 else 45
theorem fgB_inj {a b:Bool} (h:fgB a=fgB b):a=b:=by cases a<;>cases b<;>first|rfl|(revert h;decide)
def cutL {α:Type} (f:α→List UInt8):List α→List UInt8
 |[]=>[]
 |a::l=>f a++cutL f l
theorem cutL_cut {α:Type} {f:α→List UInt8} (hf:∀{a b:α} {r r':List UInt8},f a++r=f b++r'→a=b∧r=r'):∀{l l':List α} {r r':List UInt8},l.length=l'.length→cutL f l++r=cutL f l'++r'→l=l'∧r=r'
 |[],[],_,_,_,h=>⟨rfl,h⟩
 |[],_::_,_,_,h,_=>by cases h
 |_::_,[],_,_,h,_=>by cases h
 |a::l,b::l',r,r',hl,h=>by
  simp only[cutL,List.append_assoc] at h
  obtain⟨rfl,h2⟩:=hf h
  obtain⟨rfl,h3⟩:=cutL_cut hf (by simpa using hl) h2
  exact⟨rfl,h3⟩
theorem num1_cut {a b:Int} {r r':List UInt8} (h:itoa a++[32]++r=itoa b++[32]++r'):a=b∧r=r':=by
 simp only[List.append_assoc,List.cons_append,List.nil_append] at h
 exact blank_cut h
theorem flag_cut {a b:Bool} {r r':List UInt8} (h:[fgB a]++r=[fgB b]++r'):a=b∧r=r':=by
 simp only[List.cons_append,List.nil_append] at h
 injection h with h1 h2
 exact⟨fgB_inj h1,h2⟩
def nb (z:Int):List UInt8:=itoa z++[32]
def mkT (m:Mk):List UInt8:=nb m.status++(nb m.left++(nb m.got++(nb m.bearer++[fgB m.paused])))
theorem mkT_cut {a b:Mk} {r r':List UInt8} (h:mkT a++r=mkT b++r'):a=b∧r=r':=by
 unfold mkT nb at h
 simp only[List.append_assoc] at h
 obtain⟨e1,h⟩:=num1_cut (by simpa only[List.append_assoc] using h)
 obtain⟨e2,h⟩:=num1_cut (by simpa only[List.append_assoc] using h)
 obtain⟨e3,h⟩:=num1_cut (by simpa only[List.append_assoc] using h)
 obtain⟨e4,h⟩:=num1_cut (by simpa only[List.append_assoc] using h)
 obtain⟨e5,g⟩:=flag_cut h
 refine⟨?_,g⟩
 clear h g
 cases a;cases b
 simp only at e1 e2 e3 e4 e5
 rw[e1,e2,e3,e4,e5]
def txA (x:Ps):List UInt8:=[fgB x.2]++(nb x.1.day++(cutL nb x.1.holders++(cutL (fun b=>[fgB b]) x.1.used++cutL mkT x.1.marks)))
def sameLen (s t:St):Prop:=s.holders.length=t.holders.length∧s.used.length=t.used.length∧s.marks.length=t.marks.length
theorem txA_inj {x y:Ps} (hl:sameLen x.1 y.1) (h:txA x=txA y):x=y:=by
 unfold txA at h
 obtain⟨e1,h⟩:=flag_cut h
 obtain⟨e2,h⟩:=num1_cut (by simpa only[nb,List.append_assoc] using h)
 obtain⟨e3,h⟩:=cutL_cut (f:=nb) (fun q=>num1_cut (by simpa only[nb,List.append_assoc] using q)) hl.1 h
 obtain⟨e4,h⟩:=cutL_cut (f:=fun b=>[fgB b]) flag_cut hl.2.1 h
 obtain⟨e5,-⟩:=cutL_cut (r:=[]) (r':=[]) mkT_cut hl.2.2 (by simpa only[List.append_nil] using h)
 obtain⟨⟨_,_,_,_⟩,_⟩:=x
 obtain⟨⟨_,_,_,_⟩,_⟩:=y
 simp only at e1 e2 e3 e4 e5
 subst e1 e2 e3 e4 e5
 rfl
def b1 (b:Bool):Int:=if b then 1 else 0
theorem b1_inj {a b:Bool} (h:b1 a=b1 b):a=b:=by cases a<;>cases b<;>first|rfl|(revert h;decide)
def mkK (m:Mk):List UInt8:=nb m.status++(nb m.left++(nb m.got++(nb m.bearer++nb (b1 m.paused))))
theorem mkK_cut {a b:Mk} {r r':List UInt8} (h:mkK a++r=mkK b++r'):a=b∧r=r':=by
 unfold mkK nb at h
 simp only[List.append_assoc] at h
 obtain⟨e1,h⟩:=num1_cut (by simpa only[List.append_assoc] using h)
 obtain⟨e2,h⟩:=num1_cut (by simpa only[List.append_assoc] using h)
 obtain⟨e3,h⟩:=num1_cut (by simpa only[List.append_assoc] using h)
 obtain⟨e4,h⟩:=num1_cut (by simpa only[List.append_assoc] using h)
 obtain⟨e5,g⟩:=num1_cut (by simpa only[List.append_assoc] using h)
 have e6:=b1_inj e5
 refine⟨?_,g⟩
 clear h g e5
 cases a;cases b
 simp only at e1 e2 e3 e4 e6
 rw[e1,e2,e3,e4,e6]
def kyT (x:Ps):List UInt8:=nb (b1 x.2)++(nb x.1.day++(cutL nb x.1.holders++(cutL (fun b=>nb (b1 b)) x.1.used++cutL mkK x.1.marks)))
theorem kyT_inj {x y:Ps} (hl:sameLen x.1 y.1) (h:kyT x=kyT y):x=y:=by
 unfold kyT at h
 obtain⟨e1,h⟩:=num1_cut (by simpa only[nb,List.append_assoc] using h)
 have e1:=b1_inj e1
 obtain⟨e2,h⟩:=num1_cut (by simpa only[nb,List.append_assoc] using h)
 obtain⟨e3,h⟩:=cutL_cut (f:=nb) (fun q=>num1_cut (by simpa only[nb,List.append_assoc] using q)) hl.1 h
 obtain⟨e4,h⟩:=cutL_cut (f:=fun b=>nb (b1 b)) (fun q=>by
  obtain⟨q1,q2⟩:=num1_cut (by simpa only[nb,List.append_assoc] using q)
  exact⟨b1_inj q1,q2⟩) hl.2.1 h
 obtain⟨e5,-⟩:=cutL_cut (r:=[]) (r':=[]) mkK_cut hl.2.2 (by simpa only[List.append_nil] using h)
 obtain⟨⟨_,_,_,_⟩,_⟩:=x
 obtain⟨⟨_,_,_,_⟩,_⟩:=y
 simp only at e1 e2 e3 e4 e5
 subst e1 e2 e3 e4 e5
 rfl
end
section
open Go.Eng Go.RowKit Go.Lib
def sepB (s:UInt8):Bool:=s==59||s==44||s==46||s==112
theorem sepB_not {s:UInt8} (h:sepB s=true):s≠45∧¬isDig s:=by
 simp only[sepB,Bool.or_eq_true,beq_iff_eq] at h
 rcases h with((h|h)|h)|h<;>(subst h;exact⟨by decide,fun q=>by unfold isDig at q;revert q;decide⟩)
theorem itoa_nosep {n:Int} {c:UInt8} (h:c∈itoa n):sepB c=false:=by
 cases hs:sepB c with
 |false=>rfl
 |true=>
  obtain⟨h1,h2⟩:=sepB_not hs
  rcases itoa_dig h with q|q
  ·exact absurd q h1
  ·exact absurd q h2
theorem cut_sep {s s':UInt8} (hs:sepB s=true) (hs':sepB s'=true):∀{l l' r r':List UInt8},(∀c∈l,sepB c=false)→(∀c∈l',sepB c=false)→l++s::r=l'++s'::r'→l=l'∧s=s'∧r=r'
 |[],[],_,_,_,_,h=>by injection h with h1 h2;exact⟨rfl,h1,h2⟩
 |[],c::l',_,_,_,h2,h=>by
  injection h with h _
  have:=h2 c List.mem_cons_self
  rw[←h,hs] at this
  cases this
 |c::l,[],_,_,h1,_,h=>by
  injection h with h _
  have:=h1 c List.mem_cons_self
  rw[h,hs'] at this
  cases this
 |c::l,d::l',r,r',h1,h2,h=>by
  injection h with h h3
  subst h
  obtain⟨e1,e2,e3⟩:=cut_sep hs hs' (fun c q=>h1 c (List.mem_cons_of_mem _ q)) (fun c q=>h2 c (List.mem_cons_of_mem _ q)) h3
  exact⟨by rw[e1],e2,e3⟩
theorem num_sep {a b:Int} {s s':UInt8} {r r':List UInt8} (hs:sepB s=true) (hs':sepB s'=true) (h:itoa a++s::r=itoa b++s'::r'):a=b∧s=s'∧r=r':=by
 obtain⟨h1,h2,h3⟩:=cut_sep hs hs' (fun c q=>itoa_nosep q) (fun c q=>itoa_nosep q) h
 exact⟨itoa_inj h1,h2,h3⟩
def hdE (z:Int):List UInt8:=itoa z++[44]
def usE (b:Bool):List UInt8:=[if b then 49 else 48]
def mkE (m:Mk):List UInt8:=itoa m.status++(46::(itoa m.left++(46::(itoa m.got++(46::(itoa m.bearer++(if m.paused then[112,44] else[44])))))))
def encT (s:St):List UInt8:=itoa s.day++(59::(cutL hdE s.holders++(59::(cutL usE s.used++(59::cutL mkE s.marks)))))
theorem hdE_cut {a b:Int} {r r':List UInt8} (h:hdE a++r=hdE b++r'):a=b∧r=r':=by
 unfold hdE at h
 simp only[List.append_assoc,List.cons_append,List.nil_append] at h
 obtain⟨h1,-,h2⟩:=num_sep rfl rfl h
 exact⟨h1,h2⟩
theorem usE_cut {a b:Bool} {r r':List UInt8} (h:usE a++r=usE b++r'):a=b∧r=r':=by
 unfold usE at h
 simp only[List.cons_append,List.nil_append] at h
 injection h with h1 h2
 refine⟨?_,h2⟩
 cases a<;>cases b<;>first|rfl|(revert h1;decide)
theorem mkE_cut {a b:Mk} {r r':List UInt8} (h:mkE a++r=mkE b++r'):a=b∧r=r':=by
 unfold mkE at h
 simp only[List.append_assoc,List.cons_append] at h
 obtain⟨e1,-,h⟩:=num_sep rfl rfl h
 obtain⟨e2,-,h⟩:=num_sep rfl rfl h
 obtain⟨e3,-,h⟩:=num_sep rfl rfl h
 have key:a.bearer=b.bearer∧a.paused=b.paused∧r=r':=by
  cases hp:a.paused<;>cases hq:b.paused<;>rw[hp,hq] at h
  ·obtain⟨q1,-,q2⟩:=num_sep (r:=r) (r':=r') (s:=44) (s':=44) rfl rfl h
   exact⟨q1,rfl,q2⟩
  ·obtain⟨-,q1,-⟩:=num_sep (r:=r) (r':=44::r') (s:=44) (s':=112) rfl rfl h
   exact absurd q1 (by decide)
  ·obtain⟨-,q1,-⟩:=num_sep (r:=44::r) (r':=r') (s:=112) (s':=44) rfl rfl h
   exact absurd q1 (by decide)
  ·obtain⟨q1,-,q2⟩:=num_sep (r:=44::r) (r':=44::r') (s:=112) (s':=112) rfl rfl h
   injection q2 with _ q2
   exact⟨q1,rfl,q2⟩
 obtain⟨e4,e5,g⟩:=key
 refine⟨?_,g⟩
 clear h g
 cases a;cases b
 simp only at e1 e2 e3 e4 e5
 rw[e1,e2,e3,e4,e5]
theorem encT_inj {s t:St} (hl:sameLen s t) (h:encT s=encT t):s=t:=by
 unfold encT at h
 obtain⟨e1,-,h⟩:=num_sep rfl rfl h
 obtain⟨e2,h⟩:=cutL_cut hdE_cut hl.1 h
 injection h with _ h
 obtain⟨e3,h⟩:=cutL_cut usE_cut hl.2.1 h
 injection h with _ h
 obtain⟨e4,-⟩:=cutL_cut (r:=[]) (r':=[]) mkE_cut hl.2.2 (by simpa only[List.append_nil] using h)
 obtain⟨_,_,_,_⟩:=s
 obtain⟨_,_,_,_⟩:=t
 simp only at e1 e2 e3 e4
 subst e1 e2 e3 e4
 rfl
end
section
open Go.Eng Go.RowKit Go.Lib Go.Sort
def bO (s:Nat) (L:List UInt8):Ob:=.vec 5 1 s L.length (fun i=>byC (L.getD i 0))
theorem by_app (L M:List UInt8) (h:Nat→List AV) (hh:∀i,i<M.length→h i=byC (M.getD i 0)):∀i,i<(L++M).length→byC ((L++M).getD i 0)=catF L.length (fun i=>byC (L.getD i 0)) h i:=by
 intro i hi
 unfold catF
 by_cases h1:i<L.length
 ·rw[blt_yes h1]
  simp[List.getD,List.getElem?_append_left h1]
 ·rw[blt_no (show L.length≤i by omega),cond_false]
  obtain⟨k,rfl⟩:∃k,i=L.length+k:=⟨i-L.length,by omega⟩
  rw[show L.length+k-L.length=k by omega,hh k (by simp at hi;omega)]
  simp[List.getD,List.getElem?_append_right (show L.length≤L.length+k by omega)]
theorem by_app1 (L:List UInt8) (c:UInt8) (h:Nat→List AV) (hh:h 0=byC c):∀i,i<L.length+1→byC ((L++[c]).getD i 0)=catF L.length (fun i=>byC (L.getD i 0)) h i:=fun i hi=>
 by_app L [c] h (fun i hi=>by
  have:i=0:=by simp at hi;omega
  subst this;exact hh) i (by simp;omega)
theorem by_num (L:List UInt8) (z:Int) (h:Nat→List AV) (hh:h 0=byC 32):∀i,i<L.length+(itoa z).length+1→byC ((L++nb z).getD i 0)=catF (L.length+(itoa z).length) (catF L.length (fun i=>byC (L.getD i 0)) (itoaF z)) h i:=by
 intro i hi
 have e:L++nb z=(L++itoa z)++[32]:=by simp[nb]
 rw[e]
 rw[by_app1 (L++itoa z) 32 h hh i (by simp;omega)]
 unfold catF
 rw[List.length_append]
 by_cases h1:i<L.length+(itoa z).length
 ·rw[blt_yes h1,cond_true,cond_true]
  have:=by_app L (itoa z) (itoaF z) (fun _ _=>rfl) i (by simp;omega)
  exact this
 ·rw[blt_no (by omega)];rfl
theorem itoa_short {z:Int} (h:inK .i64 z):(itoa z).length≤21:=by
 simp only[inK] at h
 by_cases hz:z<0
 ·obtain⟨u,rfl⟩:∃u:Nat,z=-(u:Int):=⟨z.natAbs,by omega⟩
  rw[itoa_neg u (by omega),List.length_cons,decDigits_length]
  have:=nDigits_le20 u (by omega)
  omega
 ·obtain⟨u,rfl⟩:∃u:Nat,z=(u:Int):=⟨z.natAbs,by omega⟩
  rw[itoa_nonneg u,decDigits_length]
  have:=nDigits_le20 u (by omega)
  omega
theorem bytesS_row (L:List UInt8):bytesS L.length (fun i=>byC (L.getD i 0))=⟨L.toArray⟩:=by
 have h:(List.range L.length).map (fun i=>byteN (byC (L.getD i 0)))=L.map fun b=>(b.toNat:Int):=by
  refine List.ext_getElem (by simp) fun i h1 h2=>?_
  have hi:i<L.length:=by simpa using h2
  simp[byteN,byC,hi]
 unfold bytesS
 rw[h]
 unfold strOfNums
 congr 2
 rw[List.map_map]
 refine List.ext_getElem (by simp) fun i h1 h2=>?_
 simp
structure TxOk (s:St):Prop where
 day:inK .i64 s.day
 nh:s.holders.length≤100
 hold:∀i,i<s.holders.length→inK .i64 (s.holders.getD i default)
 nu:s.used.length≤100
 nm:s.marks.length≤400
 mark:∀i,i<s.marks.length→mkW (s.marks.getD i default)
theorem txOk_of {k:K} (hk:kW k) {s:St} (h:validS k s=true):TxOk s:=by
 obtain⟨h0,h1,h2,h3,h4,h5,-,h7⟩:=validS_len h
 have hF:=kOk.facts ⟨hk,h0⟩
 have hp:=hF.parties
 have hd:=hF.days
 refine⟨by simp only[inK];omega,by have:=hF.nh;omega,fun i hi=>by have:=h5 i hi;simp only[inK];omega,by have:=hF.na;omega,by have:=hF.nc;omega,fun i hi=>?_⟩
 have hm:=h7 i hi
 simp only[Bool.and_eq_true] at hm
 have hm:=hm.1
 have hcl:=hF.clB (i:=i) (by omega)
 have hkd:=kindW hcl.2.2.1
 have haf:=hcl.2.1
 clear hcl
 unfold markB at hm
 generalize s.marks.getD i default=m at*
 generalize clAt k i=x at*
 unfold mkW
 split at hm
 ·simp only[Bool.and_eq_true,idleB,beq_iff_eq] at hm
  simp only[inK];omega
 ·split at hm
  ·simp only[Bool.and_eq_true,decide_eq_true_eq,runB_iff] at hm
   obtain⟨a,b,c,d,e,f⟩:=hm
   simp only[inK];omega
  ·split at hm
   ·simp only[Bool.and_eq_true,decide_eq_true_eq,beq_iff_eq,runB_iff] at hm
    obtain⟨⟨a0,a⟩,b,c,d,e,f⟩:=hm
    simp only[inK];omega
   ·split at hm
    ·simp only[Bool.and_eq_true,decide_eq_true_eq,beq_iff_eq,endB] at hm
     simp only[inK];omega
    ·cases hm
theorem cutL_len {α:Type} (f:α→List UInt8) (b:Nat):∀l:List α,(∀x∈l,(f x).length≤b)→(cutL f l).length≤b*l.length
 |[],_=>Nat.zero_le _
 |a::l,h=>by
  have h1:=cutL_len f b l fun x hx=>h x (List.mem_cons_of_mem _ hx)
  have h2:=h a List.mem_cons_self
  rw[cutL,List.length_append,List.length_cons,Nat.mul_add,Nat.mul_one]
  omega
theorem cutL_succ {α:Type} [Inhabited α] (f:α→List UInt8):∀(l:List α) (i:Nat),i<l.length→cutL f (l.take (i+1))=cutL f (l.take i)++f (l.getD i default)
 |a::l,0,_=>by simp[cutL,List.getD]
 |a::l,i+1,h=>by
  have:=cutL_succ f l i (by simpa using h)
  simp only[List.take_succ_cons,cutL,this,List.append_assoc]
  simp[List.getD]
def psC (x:Ps):List AV:=[.c (.int .i64 x.1.day),intsV x.1.holders,boolsV x.1.used,rowL mkC 5 x.1.marks,.c (.bool x.2)]
def psV (x:Ps):AV:=.agg (psC x)
theorem nb_len {z:Int} (h:inK .i64 z):(nb z).length≤22:=by
 have:=itoa_short h
 simp[nb];omega
theorem takeI {l:List Int} {b:Nat} (h:∀i,i<l.length→(nb (l.getD i default)).length≤b) (i:Nat):(cutL nb (l.take i)).length≤b*l.length:=by
 refine Nat.le_trans (cutL_len nb b _ fun x hx=>?_) (Nat.mul_le_mul_left b (by rw[List.length_take];omega))
 obtain⟨j,hj,rfl⟩:=List.getElem_of_mem (List.mem_of_mem_take hx)
 have:=h j hj
 rwa[List.getD_eq_getElem?_getD,List.getElem?_eq_getElem hj] at this
theorem wA_ok (z:Int) (hz:inK .i64 z) (L:List UInt8) (hL:L.length≤900000):
  DoesM Tryz.prog 128 [.c (.int .i64 z),.ptr 0 0] [.cells 210 [.vec 1 0],bO 0 L] (.tup []) [.cells 210 [.vec 1 3],bO 3 (L++nb z)]:=by
 have hi:=itoa_short hz
 simp only[inK] at hz
 have hc:=appendInt_ok z hz.1 hz.2 L.length (by omega) (fun i=>byC (L.getD i 0))
 have hlen:(L++nb z).length=L.length+(itoa z).length+1:=by simp[nb];omega
 unfold bO
 rw[hlen]
 refine DoesM.mk (fun _=>false) 100 TT_ok Tryz.func128 rfl (by kernel_rfl) Tryz.ntmps128 rfl rfl rfl fun E hT hE hN hR=>?_
 have hm:=mixO hE
 refine XK.r ?_
 refine XL.callMA [1] hE rfl rfl rfl rfl trivial (hc) rfl rfl rfl rfl rfl ?_
 refine XL.e ?_
 refine XK.t [0,1] ?_ ?_
 ·(repeat' (first|exact rfl|exact AvIs.refl _|exact trivial|exact fun _ _=>rfl|exact fun _ _=>⟨rfl,AvIs.refl _⟩|exact cI (by omega)|exact(by_num L z _ rfl)|refine⟨?_,?_⟩))
 ·exact frI
theorem flagA_ok (b:Bool) (L:List UInt8) (hL:L.length≤900000):
  DoesM Tryz.prog 130 [.c (.bool b),.ptr 0 0] [.cells 210 [.vec 1 0],bO 0 L] (.tup []) [.cells 210 [.vec 1 1],bO 1 (L++[fgB b])]:=by
 have hlen:(L++[fgB b]).length=L.length+1:=by simp
 unfold bO
 rw[hlen]
 refine DoesM.mk (fun _=>false) 100 TT_ok Tryz.func130 rfl (by kernel_rfl) Tryz.ntmps130 rfl rfl rfl fun E hT hE hN hR=>?_
 have hm:=mixO hE
 refine XK.c ?_ ?_<;>intro h1<;>try simp at h1
 ·subst h1
  refine XK.w ?_
  refine XK.t [0,1] ?_ ?_
  ·(repeat' (first|exact rfl|exact AvIs.refl _|exact trivial|exact fun _ _=>rfl|exact fun _ _=>⟨rfl,AvIs.refl _⟩|exact cI (by omega)|exact(by_app1 L 43 _ rfl)|refine⟨?_,?_⟩))
  ·exact frI
 ·subst h1
  refine XK.w ?_
  refine XK.t [0,1] ?_ ?_
  ·(repeat' (first|exact rfl|exact AvIs.refl _|exact trivial|exact fun _ _=>rfl|exact fun _ _=>⟨rfl,AvIs.refl _⟩|exact cI (by omega)|exact(by_app1 L 45 _ rfl)|refine⟨?_,?_⟩))
  ·exact frI
end
end Go.Proofs.YtgpkkllbejgmlaaGreatDoor
