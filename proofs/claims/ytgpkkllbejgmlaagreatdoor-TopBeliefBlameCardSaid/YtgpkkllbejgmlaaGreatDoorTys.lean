/- The engine's table of this seat's types, and that the program's own agrees: written by gentys.py. -/
import Derived.Test.YtgpkkllbejgmlaaGreatDoorZz10
import Derived.Test.YtgpkkllbejgmlaaGreatDoorChecked
set_option linter.unusedSimpArgs false
set_option linter.unusedVariables false
namespace Go.Proofs.YtgpkkllbejgmlaaGreatDoor
open Go.Eng
def ty1:TI:={kind:=.other,size:=1,bytes:=8,zero:=[.nilFunc],leaf:=none}
@[simp] theorem ty1_by:ty1.bytes=8:=rfl
def ty2:TI:={kind:=.int .i64,size:=1,bytes:=8,zero:=[.int .i64 0],leaf:=none}
@[simp] theorem ty2_by:ty2.bytes=8:=rfl
def ty3:TI:={kind:=.int .i64,size:=1,bytes:=8,zero:=[.int .i64 0],leaf:=none}
@[simp] theorem ty3_by:ty3.bytes=8:=rfl
def ty4:TI:={kind:=.bool,size:=1,bytes:=1,zero:=[.bool false],leaf:=none}
@[simp] theorem ty4_by:ty4.bytes=1:=rfl
def ty5:TI:={kind:=.int .u8,size:=1,bytes:=1,zero:=[.int .u8 0],leaf:=none}
@[simp] theorem ty5_by:ty5.bytes=1:=rfl
def ty9:TI:={kind:=.string,size:=1,bytes:=16,zero:=[.string {data:=#[]}],leaf:=none}
@[simp] theorem ty9_by:ty9.bytes=16:=rfl
def ty22:TI:={kind:=.slice 3,size:=1,bytes:=24,zero:=[.slice none 0 0],leaf:=none}
@[simp] theorem ty22_by:ty22.bytes=24:=rfl
def ty23:TI:={kind:=.slice 159,size:=1,bytes:=24,zero:=[.slice none 0 0],leaf:=none}
@[simp] theorem ty23_by:ty23.bytes=24:=rfl
def ty24:TI:={kind:=.slice 92,size:=1,bytes:=24,zero:=[.slice none 0 0],leaf:=none}
@[simp] theorem ty24_by:ty24.bytes=24:=rfl
def ty25:TI:={kind:=.slice 61,size:=1,bytes:=24,zero:=[.slice none 0 0],leaf:=none}
@[simp] theorem ty25_by:ty25.bytes=24:=rfl
def ty26:TI:={kind:=.struct [(0,1),(1,1),(2,1),(3,1),(4,1),(5,1),(6,1)] [3,22,23,24,25,3,22],size:=7,bytes:=136,zero:=[.int .i64 0,.slice none 0 0,.slice none 0 0,.slice none 0 0,.slice none 0 0,.int .i64 0,.slice none 0 0],leaf:=none}
@[simp] theorem ty26_by:ty26.bytes=136:=rfl
def ty27:TI:={kind:=.struct [(0,1),(1,1),(2,1),(3,1),(4,1),(5,1),(6,1)] [3,22,23,24,25,3,22],size:=7,bytes:=136,zero:=[.int .i64 0,.slice none 0 0,.slice none 0 0,.slice none 0 0,.slice none 0 0,.int .i64 0,.slice none 0 0],leaf:=none}
@[simp] theorem ty27_by:ty27.bytes=136:=rfl
def ty32:TI:={kind:=.int .i64,size:=1,bytes:=8,zero:=[.int .i64 0],leaf:=none}
@[simp] theorem ty32_by:ty32.bytes=8:=rfl
def ty35:TI:={kind:=.slice 44,size:=1,bytes:=24,zero:=[.slice none 0 0],leaf:=none}
@[simp] theorem ty35_by:ty35.bytes=24:=rfl
def ty36:TI:={kind:=.struct [(0,1),(1,1)] [3,35],size:=2,bytes:=32,zero:=[.int .i64 0,.slice none 0 0],leaf:=none}
@[simp] theorem ty36_by:ty36.bytes=32:=rfl
def ty37:TI:={kind:=.struct [(0,1),(1,1)] [3,35],size:=2,bytes:=32,zero:=[.int .i64 0,.slice none 0 0],leaf:=none}
@[simp] theorem ty37_by:ty37.bytes=32:=rfl
def ty41:TI:={kind:=.slice 4,size:=1,bytes:=24,zero:=[.slice none 0 0],leaf:=none}
@[simp] theorem ty41_by:ty41.bytes=24:=rfl
def ty42:TI:={kind:=.slice 56,size:=1,bytes:=24,zero:=[.slice none 0 0],leaf:=none}
@[simp] theorem ty42_by:ty42.bytes=24:=rfl
def ty43:TI:={kind:=.struct [(0,1),(1,1),(2,1),(3,1)] [3,22,41,42],size:=4,bytes:=80,zero:=[.int .i64 0,.slice none 0 0,.slice none 0 0,.slice none 0 0],leaf:=none}
@[simp] theorem ty43_by:ty43.bytes=80:=rfl
def ty44:TI:={kind:=.struct [(0,1),(1,1),(2,1),(3,1)] [3,22,41,42],size:=4,bytes:=80,zero:=[.int .i64 0,.slice none 0 0,.slice none 0 0,.slice none 0 0],leaf:=none}
@[simp] theorem ty44_by:ty44.bytes=80:=rfl
def ty49:TI:={kind:=.struct [(0,4),(4,1)] [44,4],size:=5,bytes:=88,zero:=[.int .i64 0,.slice none 0 0,.slice none 0 0,.slice none 0 0,.bool false],leaf:=none}
@[simp] theorem ty49_by:ty49.bytes=88:=rfl
def ty50:TI:={kind:=.struct [(0,4),(4,1)] [44,4],size:=5,bytes:=88,zero:=[.int .i64 0,.slice none 0 0,.slice none 0 0,.slice none 0 0,.bool false],leaf:=none}
@[simp] theorem ty50_by:ty50.bytes=88:=rfl
def ty55:TI:={kind:=.struct [(0,1),(1,1),(2,1),(3,1),(4,1)] [3,3,3,3,4],size:=5,bytes:=40,zero:=[.int .i64 0,.int .i64 0,.int .i64 0,.int .i64 0,.bool false],leaf:=none}
@[simp] theorem ty55_by:ty55.bytes=40:=rfl
def ty56:TI:={kind:=.struct [(0,1),(1,1),(2,1),(3,1),(4,1)] [3,3,3,3,4],size:=5,bytes:=40,zero:=[.int .i64 0,.int .i64 0,.int .i64 0,.int .i64 0,.bool false],leaf:=none}
@[simp] theorem ty56_by:ty56.bytes=40:=rfl
def ty57:TI:={kind:=.slice 156,size:=1,bytes:=24,zero:=[.slice none 0 0],leaf:=none}
@[simp] theorem ty57_by:ty57.bytes=24:=rfl
def ty58:TI:={kind:=.struct [(0,1),(1,1)] [3,3],size:=2,bytes:=16,zero:=[.int .i64 0,.int .i64 0],leaf:=none}
@[simp] theorem ty58_by:ty58.bytes=16:=rfl
def ty59:TI:={kind:=.struct [(0,1),(1,1)] [3,3],size:=2,bytes:=16,zero:=[.int .i64 0,.int .i64 0],leaf:=none}
@[simp] theorem ty59_by:ty59.bytes=16:=rfl
def ty60:TI:={kind:=.struct [(0,1),(1,1),(2,1),(3,1),(4,1),(5,1),(6,1),(7,1),(8,1),(9,1),(10,1),(11,2),(13,1),(14,1),(15,1)] [3,3,3,3,57,3,3,4,4,3,3,59,3,3,4],size:=16,bytes:=136,zero:=[.int .i64 0,.int .i64 0,.int .i64 0,.int .i64 0,.slice none 0 0,.int .i64 0,.int .i64 0,.bool false,.bool false,.int .i64 0,.int .i64 0,.int .i64 0,.int .i64 0,.int .i64 0,.int .i64 0,.bool false],leaf:=none}
@[simp] theorem ty60_by:ty60.bytes=136:=rfl
def ty61:TI:={kind:=.struct [(0,1),(1,1),(2,1),(3,1),(4,1),(5,1),(6,1),(7,1),(8,1),(9,1),(10,1),(11,2),(13,1),(14,1),(15,1)] [3,3,3,3,57,3,3,4,4,3,3,59,3,3,4],size:=16,bytes:=136,zero:=[.int .i64 0,.int .i64 0,.int .i64 0,.int .i64 0,.slice none 0 0,.int .i64 0,.int .i64 0,.bool false,.bool false,.int .i64 0,.int .i64 0,.int .i64 0,.int .i64 0,.int .i64 0,.int .i64 0,.bool false],leaf:=none}
@[simp] theorem ty61_by:ty61.bytes=136:=rfl
def ty72:TI:={kind:=.other,size:=1,bytes:=8,zero:=[.pointer none],leaf:=none}
@[simp] theorem ty72_by:ty72.bytes=8:=rfl
def ty74:TI:={kind:=.struct [(0,7),(7,4)] [27,44],size:=11,bytes:=216,zero:=[.int .i64 0,.slice none 0 0,.slice none 0 0,.slice none 0 0,.slice none 0 0,.int .i64 0,.slice none 0 0,.int .i64 0,.slice none 0 0,.slice none 0 0,.slice none 0 0],leaf:=none}
@[simp] theorem ty74_by:ty74.bytes=216:=rfl
def ty75:TI:={kind:=.struct [(0,7),(7,4)] [27,44],size:=11,bytes:=216,zero:=[.int .i64 0,.slice none 0 0,.slice none 0 0,.slice none 0 0,.slice none 0 0,.int .i64 0,.slice none 0 0,.int .i64 0,.slice none 0 0,.slice none 0 0,.slice none 0 0],leaf:=none}
@[simp] theorem ty75_by:ty75.bytes=216:=rfl
def ty76:TI:={kind:=.slice 22,size:=1,bytes:=24,zero:=[.slice none 0 0],leaf:=none}
@[simp] theorem ty76_by:ty76.bytes=24:=rfl
def ty79:TI:={kind:=.slice 181,size:=1,bytes:=24,zero:=[.slice none 0 0],leaf:=none}
@[simp] theorem ty79_by:ty79.bytes=24:=rfl
def ty80:TI:={kind:=.slice 27,size:=1,bytes:=24,zero:=[.slice none 0 0],leaf:=none}
@[simp] theorem ty80_by:ty80.bytes=24:=rfl
def ty81:TI:={kind:=.struct [(0,1),(1,1),(2,1),(3,1)] [80,35,22,22],size:=4,bytes:=96,zero:=[.slice none 0 0,.slice none 0 0,.slice none 0 0,.slice none 0 0],leaf:=none}
@[simp] theorem ty81_by:ty81.bytes=96:=rfl
def ty82:TI:={kind:=.struct [(0,1),(1,1),(2,1),(3,1)] [80,35,22,22],size:=4,bytes:=96,zero:=[.slice none 0 0,.slice none 0 0,.slice none 0 0,.slice none 0 0],leaf:=none}
@[simp] theorem ty82_by:ty82.bytes=96:=rfl
def ty85:TI:={kind:=.struct [(0,1),(1,5),(6,5)] [3,50,50],size:=11,bytes:=184,zero:=[.int .i64 0,.int .i64 0,.slice none 0 0,.slice none 0 0,.slice none 0 0,.bool false,.int .i64 0,.slice none 0 0,.slice none 0 0,.slice none 0 0,.bool false],leaf:=none}
@[simp] theorem ty85_by:ty85.bytes=184:=rfl
def ty86:TI:={kind:=.struct [(0,1),(1,5),(6,5)] [3,50,50],size:=11,bytes:=184,zero:=[.int .i64 0,.int .i64 0,.slice none 0 0,.slice none 0 0,.slice none 0 0,.bool false,.int .i64 0,.slice none 0 0,.slice none 0 0,.slice none 0 0,.bool false],leaf:=none}
@[simp] theorem ty86_by:ty86.bytes=184:=rfl
def ty88:TI:={kind:=.other,size:=1,bytes:=8,zero:=[.pointer none],leaf:=none}
@[simp] theorem ty88_by:ty88.bytes=8:=rfl
def ty91:TI:={kind:=.struct [(0,1),(1,1),(2,1),(3,1),(4,1),(5,2)] [3,3,3,3,3,59],size:=7,bytes:=56,zero:=[.int .i64 0,.int .i64 0,.int .i64 0,.int .i64 0,.int .i64 0,.int .i64 0,.int .i64 0],leaf:=none}
@[simp] theorem ty91_by:ty91.bytes=56:=rfl
def ty92:TI:={kind:=.struct [(0,1),(1,1),(2,1),(3,1),(4,1),(5,2)] [3,3,3,3,3,59],size:=7,bytes:=56,zero:=[.int .i64 0,.int .i64 0,.int .i64 0,.int .i64 0,.int .i64 0,.int .i64 0,.int .i64 0],leaf:=none}
@[simp] theorem ty92_by:ty92.bytes=56:=rfl
def ty93:TI:={kind:=.other,size:=1,bytes:=8,zero:=[.nilFunc],leaf:=none}
@[simp] theorem ty93_by:ty93.bytes=8:=rfl
def ty95:TI:={kind:=.other,size:=1,bytes:=8,zero:=[.nilFunc],leaf:=none}
@[simp] theorem ty95_by:ty95.bytes=8:=rfl
def ty100:TI:={kind:=.other,size:=1,bytes:=8,zero:=[.nilFunc],leaf:=none}
@[simp] theorem ty100_by:ty100.bytes=8:=rfl
def ty104:TI:={kind:=.slice 50,size:=1,bytes:=24,zero:=[.slice none 0 0],leaf:=none}
@[simp] theorem ty104_by:ty104.bytes=24:=rfl
def ty105:TI:={kind:=.slice 170,size:=1,bytes:=24,zero:=[.slice none 0 0],leaf:=none}
@[simp] theorem ty105_by:ty105.bytes=24:=rfl
def ty106:TI:={kind:=.struct [(0,1),(1,1),(2,1)] [3,104,105],size:=3,bytes:=56,zero:=[.int .i64 0,.slice none 0 0,.slice none 0 0],leaf:=none}
@[simp] theorem ty106_by:ty106.bytes=56:=rfl
def ty107:TI:={kind:=.struct [(0,1),(1,1),(2,1)] [3,104,105],size:=3,bytes:=56,zero:=[.int .i64 0,.slice none 0 0,.slice none 0 0],leaf:=none}
@[simp] theorem ty107_by:ty107.bytes=56:=rfl
def ty115:TI:={kind:=.map 9 4,size:=1,bytes:=8,zero:=[.map none],leaf:=none}
@[simp] theorem ty115_by:ty115.bytes=8:=rfl
def ty116:TI:={kind:=.map 3 4,size:=1,bytes:=8,zero:=[.map none],leaf:=none}
@[simp] theorem ty116_by:ty116.bytes=8:=rfl
def ty117:TI:={kind:=.map 9 199,size:=1,bytes:=8,zero:=[.map none],leaf:=none}
@[simp] theorem ty117_by:ty117.bytes=8:=rfl
def ty118:TI:={kind:=.map 9 340,size:=1,bytes:=8,zero:=[.map none],leaf:=none}
@[simp] theorem ty118_by:ty118.bytes=8:=rfl
def ty119:TI:={kind:=.struct [(0,1),(1,2)] [3,59],size:=3,bytes:=24,zero:=[.int .i64 0,.int .i64 0,.int .i64 0],leaf:=none}
@[simp] theorem ty119_by:ty119.bytes=24:=rfl
def ty120:TI:={kind:=.struct [(0,1),(1,2)] [3,59],size:=3,bytes:=24,zero:=[.int .i64 0,.int .i64 0,.int .i64 0],leaf:=none}
@[simp] theorem ty120_by:ty120.bytes=24:=rfl
def ty121:TI:={kind:=.struct [(0,1),(1,1),(2,1),(3,1),(4,1),(5,1),(6,3)] [3,115,116,117,118,4,120],size:=9,bytes:=72,zero:=[.int .i64 0,.map none,.map none,.map none,.map none,.bool false,.int .i64 0,.int .i64 0,.int .i64 0],leaf:=none}
@[simp] theorem ty121_by:ty121.bytes=72:=rfl
def ty122:TI:={kind:=.struct [(0,1),(1,1),(2,1),(3,1),(4,1),(5,1),(6,3)] [3,115,116,117,118,4,120],size:=9,bytes:=72,zero:=[.int .i64 0,.map none,.map none,.map none,.map none,.bool false,.int .i64 0,.int .i64 0,.int .i64 0],leaf:=none}
@[simp] theorem ty122_by:ty122.bytes=72:=rfl
def ty124:TI:={kind:=.other,size:=1,bytes:=8,zero:=[.nilFunc],leaf:=none}
@[simp] theorem ty124_by:ty124.bytes=8:=rfl
def ty128:TI:={kind:=.other,size:=1,bytes:=8,zero:=[.nilFunc],leaf:=none}
@[simp] theorem ty128_by:ty128.bytes=8:=rfl
def ty129:TI:={kind:=.array 5 128,size:=5,bytes:=40,zero:=[.nilFunc,.nilFunc,.nilFunc,.nilFunc,.nilFunc],leaf:=none}
@[simp] theorem ty129_by:ty129.bytes=40:=rfl
def ty133:TI:={kind:=.other,size:=1,bytes:=8,zero:=[.nilFunc],leaf:=none}
@[simp] theorem ty133_by:ty133.bytes=8:=rfl
def ty138:TI:={kind:=.other,size:=1,bytes:=8,zero:=[.nilFunc],leaf:=none}
@[simp] theorem ty138_by:ty138.bytes=8:=rfl
def ty140:TI:={kind:=.struct [(0,1),(1,4)] [3,44],size:=5,bytes:=88,zero:=[.int .i64 0,.int .i64 0,.slice none 0 0,.slice none 0 0,.slice none 0 0],leaf:=none}
@[simp] theorem ty140_by:ty140.bytes=88:=rfl
def ty141:TI:={kind:=.struct [(0,1),(1,4)] [3,44],size:=5,bytes:=88,zero:=[.int .i64 0,.int .i64 0,.slice none 0 0,.slice none 0 0,.slice none 0 0],leaf:=none}
@[simp] theorem ty141_by:ty141.bytes=88:=rfl
def ty142:TI:={kind:=.map 9 44,size:=1,bytes:=8,zero:=[.map none],leaf:=none}
@[simp] theorem ty142_by:ty142.bytes=8:=rfl
def ty146:TI:={kind:=.slice 9,size:=1,bytes:=24,zero:=[.slice none 0 0],leaf:=none}
@[simp] theorem ty146_by:ty146.bytes=24:=rfl
def ty149:TI:={kind:=.other,size:=1,bytes:=8,zero:=[.nilFunc],leaf:=none}
@[simp] theorem ty149_by:ty149.bytes=8:=rfl
def ty155:TI:={kind:=.struct [(0,1),(1,1)] [3,3],size:=2,bytes:=16,zero:=[.int .i64 0,.int .i64 0],leaf:=none}
@[simp] theorem ty155_by:ty155.bytes=16:=rfl
def ty156:TI:={kind:=.struct [(0,1),(1,1)] [3,3],size:=2,bytes:=16,zero:=[.int .i64 0,.int .i64 0],leaf:=none}
@[simp] theorem ty156_by:ty156.bytes=16:=rfl
def ty158:TI:={kind:=.struct [(0,1),(1,1),(2,1),(3,2)] [9,3,3,59],size:=5,bytes:=48,zero:=[.string {data:=#[]},.int .i64 0,.int .i64 0,.int .i64 0,.int .i64 0],leaf:=none}
@[simp] theorem ty158_by:ty158.bytes=48:=rfl
def ty159:TI:={kind:=.struct [(0,1),(1,1),(2,1),(3,2)] [9,3,3,59],size:=5,bytes:=48,zero:=[.string {data:=#[]},.int .i64 0,.int .i64 0,.int .i64 0,.int .i64 0],leaf:=none}
@[simp] theorem ty159_by:ty159.bytes=48:=rfl
def ty161:TI:={kind:=.other,size:=1,bytes:=8,zero:=[.nilFunc],leaf:=none}
@[simp] theorem ty161_by:ty161.bytes=8:=rfl
def ty169:TI:={kind:=.map 9 3,size:=1,bytes:=8,zero:=[.map none],leaf:=none}
@[simp] theorem ty169_by:ty169.bytes=8:=rfl
def ty170:TI:={kind:=.slice 175,size:=1,bytes:=24,zero:=[.slice none 0 0],leaf:=none}
@[simp] theorem ty170_by:ty170.bytes=24:=rfl
def ty172:TI:={kind:=.other,size:=1,bytes:=8,zero:=[.nilFunc],leaf:=none}
@[simp] theorem ty172_by:ty172.bytes=8:=rfl
def ty174:TI:={kind:=.struct [(0,1),(1,1)] [3,3],size:=2,bytes:=16,zero:=[.int .i64 0,.int .i64 0],leaf:=none}
@[simp] theorem ty174_by:ty174.bytes=16:=rfl
def ty175:TI:={kind:=.struct [(0,1),(1,1)] [3,3],size:=2,bytes:=16,zero:=[.int .i64 0,.int .i64 0],leaf:=none}
@[simp] theorem ty175_by:ty175.bytes=16:=rfl
def ty178:TI:={kind:=.struct [(0,1),(1,1),(2,16),(18,1)] [3,22,61,3],size:=19,bytes:=176,zero:=[.int .i64 0,.slice none 0 0,.int .i64 0,.int .i64 0,.int .i64 0,.int .i64 0,.slice none 0 0,.int .i64 0,.int .i64 0,.bool false,.bool false,.int .i64 0,.int .i64 0,.int .i64 0,.int .i64 0,.int .i64 0,.int .i64 0,.bool false,.int .i64 0],leaf:=none}
@[simp] theorem ty178_by:ty178.bytes=176:=rfl
def ty179:TI:={kind:=.struct [(0,1),(1,1),(2,16),(18,1)] [3,22,61,3],size:=19,bytes:=176,zero:=[.int .i64 0,.slice none 0 0,.int .i64 0,.int .i64 0,.int .i64 0,.int .i64 0,.slice none 0 0,.int .i64 0,.int .i64 0,.bool false,.bool false,.int .i64 0,.int .i64 0,.int .i64 0,.int .i64 0,.int .i64 0,.int .i64 0,.bool false,.int .i64 0],leaf:=none}
@[simp] theorem ty179_by:ty179.bytes=176:=rfl
def ty180:TI:={kind:=.struct [(0,1),(1,1),(2,1),(3,19)] [3,3,3,179],size:=22,bytes:=200,zero:=[.int .i64 0,.int .i64 0,.int .i64 0,.int .i64 0,.slice none 0 0,.int .i64 0,.int .i64 0,.int .i64 0,.int .i64 0,.slice none 0 0,.int .i64 0,.int .i64 0,.bool false,.bool false,.int .i64 0,.int .i64 0,.int .i64 0,.int .i64 0,.int .i64 0,.int .i64 0,.bool false,.int .i64 0],leaf:=none}
@[simp] theorem ty180_by:ty180.bytes=200:=rfl
def ty181:TI:={kind:=.struct [(0,1),(1,1),(2,1),(3,19)] [3,3,3,179],size:=22,bytes:=200,zero:=[.int .i64 0,.int .i64 0,.int .i64 0,.int .i64 0,.slice none 0 0,.int .i64 0,.int .i64 0,.int .i64 0,.int .i64 0,.slice none 0 0,.int .i64 0,.int .i64 0,.bool false,.bool false,.int .i64 0,.int .i64 0,.int .i64 0,.int .i64 0,.int .i64 0,.int .i64 0,.bool false,.int .i64 0],leaf:=none}
@[simp] theorem ty181_by:ty181.bytes=200:=rfl
def ty183:TI:={kind:=.other,size:=1,bytes:=8,zero:=[.nilFunc],leaf:=none}
@[simp] theorem ty183_by:ty183.bytes=8:=rfl
def ty185:TI:={kind:=.struct [(0,7),(7,4)] [27,44],size:=11,bytes:=216,zero:=[.int .i64 0,.slice none 0 0,.slice none 0 0,.slice none 0 0,.slice none 0 0,.int .i64 0,.slice none 0 0,.int .i64 0,.slice none 0 0,.slice none 0 0,.slice none 0 0],leaf:=none}
@[simp] theorem ty185_by:ty185.bytes=216:=rfl
def ty186:TI:={kind:=.struct [(0,7),(7,4)] [27,44],size:=11,bytes:=216,zero:=[.int .i64 0,.slice none 0 0,.slice none 0 0,.slice none 0 0,.slice none 0 0,.int .i64 0,.slice none 0 0,.int .i64 0,.slice none 0 0,.slice none 0 0,.slice none 0 0],leaf:=none}
@[simp] theorem ty186_by:ty186.bytes=216:=rfl
def ty197:TI:={kind:=.slice 203,size:=1,bytes:=24,zero:=[.slice none 0 0],leaf:=none}
@[simp] theorem ty197_by:ty197.bytes=24:=rfl
def ty198:TI:={kind:=.struct [(0,1),(1,1)] [3,197],size:=2,bytes:=32,zero:=[.int .i64 0,.slice none 0 0],leaf:=none}
@[simp] theorem ty198_by:ty198.bytes=32:=rfl
def ty199:TI:={kind:=.struct [(0,1),(1,1)] [3,197],size:=2,bytes:=32,zero:=[.int .i64 0,.slice none 0 0],leaf:=none}
@[simp] theorem ty199_by:ty199.bytes=32:=rfl
def ty202:TI:={kind:=.struct [(0,5),(5,1)] [50,3],size:=6,bytes:=96,zero:=[.int .i64 0,.slice none 0 0,.slice none 0 0,.slice none 0 0,.bool false,.int .i64 0],leaf:=none}
@[simp] theorem ty202_by:ty202.bytes=96:=rfl
def ty203:TI:={kind:=.struct [(0,5),(5,1)] [50,3],size:=6,bytes:=96,zero:=[.int .i64 0,.slice none 0 0,.slice none 0 0,.slice none 0 0,.bool false,.int .i64 0],leaf:=none}
@[simp] theorem ty203_by:ty203.bytes=96:=rfl
def ty205:TI:={kind:=.other,size:=1,bytes:=8,zero:=[.nilFunc],leaf:=none}
@[simp] theorem ty205_by:ty205.bytes=8:=rfl
def ty206:TI:={kind:=.int .u64,size:=1,bytes:=8,zero:=[.int .u64 0],leaf:=none}
@[simp] theorem ty206_by:ty206.bytes=8:=rfl
def ty210:TI:={kind:=.slice 5,size:=1,bytes:=24,zero:=[.slice none 0 0],leaf:=none}
@[simp] theorem ty210_by:ty210.bytes=24:=rfl
def ty214:TI:={kind:=.slice 159,size:=1,bytes:=24,zero:=[.slice none 0 0],leaf:=none}
@[simp] theorem ty214_by:ty214.bytes=24:=rfl
def ty215:TI:={kind:=.array 400 3,size:=400,bytes:=3200,zero:=[.int .i64 0,.int .i64 0,.int .i64 0,.int .i64 0,.int .i64 0,.int .i64 0,.int .i64 0,.int .i64 0,.int .i64 0,.int .i64 0,.int .i64 0,.int .i64 0,.int .i64 0,.int .i64 0,.int .i64 0,.int .i64 0,.int .i64 0,.int .i64 0,.int .i64 0,.int .i64 0,.int .i64 0,.int .i64 0,.int .i64 0,.int .i64 0,.int .i64 0,.int .i64 0,.int .i64 0,.int .i64 0,.int .i64 0,.int .i64 0,.int .i64 0,.int .i64 0,.int .i64 0,.int .i64 0,.int .i64 0,.int .i64 0,.int .i64 0,.int .i64 0,.int .i64 0,.int .i64 0,.int .i64 0,.int .i64 0,.int .i64 0,.int .i64 0,.int .i64 0,.int .i64 0,.int .i64 0,.int .i64 0,.int .i64 0,.int .i64 0,.int .i64 0,.int .i64 0,.int .i64 0,.int .i64 0,.int .i64 0,.int .i64 0,.int .i64 0,.int .i64 0,.int .i64 0,.int .i64 0,.int .i64 0,.int .i64 0,.int .i64 0,.int .i64 0,.int .i64 0,.int .i64 0,.int .i64 0,.int .i64 0,.int .i64 0,.int .i64 0,.int .i64 0,.int .i64 0,.int .i64 0,.int .i64 0,.int .i64 0,.int .i64 0,.int .i64 0,.int .i64 0,.int .i64 0,.int .i64 0,.int .i64 0,.int .i64 0,.int .i64 0,.int .i64 0,.int .i64 0,.int .i64 0,.int .i64 0,.int .i64 0,.int .i64 0,.int .i64 0,.int .i64 0,.int .i64 0,.int .i64 0,.int .i64 0,.int .i64 0,.int .i64 0,.int .i64 0,.int .i64 0,.int .i64 0,.int .i64 0,.int .i64 0,.int .i64 0,.int .i64 0,.int .i64 0,.int .i64 0,.int .i64 0,.int .i64 0,.int .i64 0,.int .i64 0,.int .i64 0,.int .i64 0,.int .i64 0,.int .i64 0,.int .i64 0,.int .i64 0,.int .i64 0,.int .i64 0,.int .i64 0,.int .i64 0,.int .i64 0,.int .i64 0,.int .i64 0,.int .i64 0,.int .i64 0,.int .i64 0,.int .i64 0,.int .i64 0,.int .i64 0,.int .i64 0,.int .i64 0,.int .i64 0,.int .i64 0,.int .i64 0,.int .i64 0,.int .i64 0,.int .i64 0,.int .i64 0,.int .i64 0,.int .i64 0,.int .i64 0,.int .i64 0,.int .i64 0,.int .i64 0,.int .i64 0,.int .i64 0,.int .i64 0,.int .i64 0,.int .i64 0,.int .i64 0,.int .i64 0,.int .i64 0,.int .i64 0,.int .i64 0,.int .i64 0,.int .i64 0,.int .i64 0,.int .i64 0,.int .i64 0,.int .i64 0,.int .i64 0,.int .i64 0,.int .i64 0,.int .i64 0,.int .i64 0,.int .i64 0,.int .i64 0,.int .i64 0,.int .i64 0,.int .i64 0,.int .i64 0,.int .i64 0,.int .i64 0,.int .i64 0,.int .i64 0,.int .i64 0,.int .i64 0,.int .i64 0,.int .i64 0,.int .i64 0,.int .i64 0,.int .i64 0,.int .i64 0,.int .i64 0,.int .i64 0,.int .i64 0,.int .i64 0,.int .i64 0,.int .i64 0,.int .i64 0,.int .i64 0,.int .i64 0,.int .i64 0,.int .i64 0,.int .i64 0,.int .i64 0,.int .i64 0,.int .i64 0,.int .i64 0,.int .i64 0,.int .i64 0,.int .i64 0,.int .i64 0,.int .i64 0,.int .i64 0,.int .i64 0,.int .i64 0,.int .i64 0,.int .i64 0,.int .i64 0,.int .i64 0,.int .i64 0,.int .i64 0,.int .i64 0,.int .i64 0,.int .i64 0,.int .i64 0,.int .i64 0,.int .i64 0,.int .i64 0,.int .i64 0,.int .i64 0,.int .i64 0,.int .i64 0,.int .i64 0,.int .i64 0,.int .i64 0,.int .i64 0,.int .i64 0,.int .i64 0,.int .i64 0,.int .i64 0,.int .i64 0,.int .i64 0,.int .i64 0,.int .i64 0,.int .i64 0,.int .i64 0,.int .i64 0,.int .i64 0,.int .i64 0,.int .i64 0,.int .i64 0,.int .i64 0,.int .i64 0,.int .i64 0,.int .i64 0,.int .i64 0,.int .i64 0,.int .i64 0,.int .i64 0,.int .i64 0,.int .i64 0,.int .i64 0,.int .i64 0,.int .i64 0,.int .i64 0,.int .i64 0,.int .i64 0,.int .i64 0,.int .i64 0,.int .i64 0,.int .i64 0,.int .i64 0,.int .i64 0,.int .i64 0,.int .i64 0,.int .i64 0,.int .i64 0,.int .i64 0,.int .i64 0,.int .i64 0,.int .i64 0,.int .i64 0,.int .i64 0,.int .i64 0,.int .i64 0,.int .i64 0,.int .i64 0,.int .i64 0,.int .i64 0,.int .i64 0,.int .i64 0,.int .i64 0,.int .i64 0,.int .i64 0,.int .i64 0,.int .i64 0,.int .i64 0,.int .i64 0,.int .i64 0,.int .i64 0,.int .i64 0,.int .i64 0,.int .i64 0,.int .i64 0,.int .i64 0,.int .i64 0,.int .i64 0,.int .i64 0,.int .i64 0,.int .i64 0,.int .i64 0,.int .i64 0,.int .i64 0,.int .i64 0,.int .i64 0,.int .i64 0,.int .i64 0,.int .i64 0,.int .i64 0,.int .i64 0,.int .i64 0,.int .i64 0,.int .i64 0,.int .i64 0,.int .i64 0,.int .i64 0,.int .i64 0,.int .i64 0,.int .i64 0,.int .i64 0,.int .i64 0,.int .i64 0,.int .i64 0,.int .i64 0,.int .i64 0,.int .i64 0,.int .i64 0,.int .i64 0,.int .i64 0,.int .i64 0,.int .i64 0,.int .i64 0,.int .i64 0,.int .i64 0,.int .i64 0,.int .i64 0,.int .i64 0,.int .i64 0,.int .i64 0,.int .i64 0,.int .i64 0,.int .i64 0,.int .i64 0,.int .i64 0,.int .i64 0,.int .i64 0,.int .i64 0,.int .i64 0,.int .i64 0,.int .i64 0,.int .i64 0,.int .i64 0,.int .i64 0,.int .i64 0,.int .i64 0,.int .i64 0,.int .i64 0,.int .i64 0,.int .i64 0,.int .i64 0,.int .i64 0,.int .i64 0,.int .i64 0,.int .i64 0,.int .i64 0,.int .i64 0,.int .i64 0,.int .i64 0,.int .i64 0,.int .i64 0,.int .i64 0,.int .i64 0,.int .i64 0,.int .i64 0,.int .i64 0,.int .i64 0,.int .i64 0,.int .i64 0,.int .i64 0,.int .i64 0,.int .i64 0,.int .i64 0,.int .i64 0,.int .i64 0,.int .i64 0,.int .i64 0,.int .i64 0,.int .i64 0,.int .i64 0,.int .i64 0,.int .i64 0,.int .i64 0,.int .i64 0,.int .i64 0,.int .i64 0,.int .i64 0,.int .i64 0,.int .i64 0,.int .i64 0],leaf:=none}
@[simp] theorem ty215_by:ty215.bytes=3200:=rfl
def ty218:TI:={kind:=.map 3 3,size:=1,bytes:=8,zero:=[.map none],leaf:=none}
@[simp] theorem ty218_by:ty218.bytes=8:=rfl
def ty231:TI:={kind:=.struct [(0,1),(1,1)] [22,3],size:=2,bytes:=32,zero:=[.slice none 0 0,.int .i64 0],leaf:=none}
@[simp] theorem ty231_by:ty231.bytes=32:=rfl
def ty232:TI:={kind:=.struct [(0,1),(1,1)] [22,3],size:=2,bytes:=32,zero:=[.slice none 0 0,.int .i64 0],leaf:=none}
@[simp] theorem ty232_by:ty232.bytes=32:=rfl
def ty234:TI:={kind:=.slice 236,size:=1,bytes:=24,zero:=[.slice none 0 0],leaf:=none}
@[simp] theorem ty234_by:ty234.bytes=24:=rfl
def ty235:TI:={kind:=.struct [(0,22),(22,1)] [181,3],size:=23,bytes:=208,zero:=[.int .i64 0,.int .i64 0,.int .i64 0,.int .i64 0,.slice none 0 0,.int .i64 0,.int .i64 0,.int .i64 0,.int .i64 0,.slice none 0 0,.int .i64 0,.int .i64 0,.bool false,.bool false,.int .i64 0,.int .i64 0,.int .i64 0,.int .i64 0,.int .i64 0,.int .i64 0,.bool false,.int .i64 0,.int .i64 0],leaf:=none}
@[simp] theorem ty235_by:ty235.bytes=208:=rfl
def ty236:TI:={kind:=.struct [(0,22),(22,1)] [181,3],size:=23,bytes:=208,zero:=[.int .i64 0,.int .i64 0,.int .i64 0,.int .i64 0,.slice none 0 0,.int .i64 0,.int .i64 0,.int .i64 0,.int .i64 0,.slice none 0 0,.int .i64 0,.int .i64 0,.bool false,.bool false,.int .i64 0,.int .i64 0,.int .i64 0,.int .i64 0,.int .i64 0,.int .i64 0,.bool false,.int .i64 0,.int .i64 0],leaf:=none}
@[simp] theorem ty236_by:ty236.bytes=208:=rfl
def ty250:TI:={kind:=.int .u64,size:=1,bytes:=8,zero:=[.int .u64 0],leaf:=none}
@[simp] theorem ty250_by:ty250.bytes=8:=rfl
def ty282:TI:={kind:=.int .u32,size:=1,bytes:=4,zero:=[.int .u32 0],leaf:=none}
@[simp] theorem ty282_by:ty282.bytes=4:=rfl
def ty284:TI:={kind:=.slice 250,size:=1,bytes:=24,zero:=[.slice none 0 0],leaf:=none}
@[simp] theorem ty284_by:ty284.bytes=24:=rfl
def ty299:TI:={kind:=.array 24 5,size:=24,bytes:=24,zero:=[.int .u8 0,.int .u8 0,.int .u8 0,.int .u8 0,.int .u8 0,.int .u8 0,.int .u8 0,.int .u8 0,.int .u8 0,.int .u8 0,.int .u8 0,.int .u8 0,.int .u8 0,.int .u8 0,.int .u8 0,.int .u8 0,.int .u8 0,.int .u8 0,.int .u8 0,.int .u8 0,.int .u8 0,.int .u8 0,.int .u8 0,.int .u8 0],leaf:=none}
@[simp] theorem ty299_by:ty299.bytes=24:=rfl
def ty314:TI:={kind:=.array 20 250,size:=20,bytes:=160,zero:=[.int .u64 0,.int .u64 0,.int .u64 0,.int .u64 0,.int .u64 0,.int .u64 0,.int .u64 0,.int .u64 0,.int .u64 0,.int .u64 0,.int .u64 0,.int .u64 0,.int .u64 0,.int .u64 0,.int .u64 0,.int .u64 0,.int .u64 0,.int .u64 0,.int .u64 0,.int .u64 0],leaf:=none}
@[simp] theorem ty314_by:ty314.bytes=160:=rfl
def ty315:TI:={kind:=.array 65 5,size:=65,bytes:=65,zero:=[.int .u8 0,.int .u8 0,.int .u8 0,.int .u8 0,.int .u8 0,.int .u8 0,.int .u8 0,.int .u8 0,.int .u8 0,.int .u8 0,.int .u8 0,.int .u8 0,.int .u8 0,.int .u8 0,.int .u8 0,.int .u8 0,.int .u8 0,.int .u8 0,.int .u8 0,.int .u8 0,.int .u8 0,.int .u8 0,.int .u8 0,.int .u8 0,.int .u8 0,.int .u8 0,.int .u8 0,.int .u8 0,.int .u8 0,.int .u8 0,.int .u8 0,.int .u8 0,.int .u8 0,.int .u8 0,.int .u8 0,.int .u8 0,.int .u8 0,.int .u8 0,.int .u8 0,.int .u8 0,.int .u8 0,.int .u8 0,.int .u8 0,.int .u8 0,.int .u8 0,.int .u8 0,.int .u8 0,.int .u8 0,.int .u8 0,.int .u8 0,.int .u8 0,.int .u8 0,.int .u8 0,.int .u8 0,.int .u8 0,.int .u8 0,.int .u8 0,.int .u8 0,.int .u8 0,.int .u8 0,.int .u8 0,.int .u8 0,.int .u8 0,.int .u8 0,.int .u8 0],leaf:=none}
@[simp] theorem ty315_by:ty315.bytes=65:=rfl
def ty320:TI:={kind:=.array 32 5,size:=32,bytes:=32,zero:=[.int .u8 0,.int .u8 0,.int .u8 0,.int .u8 0,.int .u8 0,.int .u8 0,.int .u8 0,.int .u8 0,.int .u8 0,.int .u8 0,.int .u8 0,.int .u8 0,.int .u8 0,.int .u8 0,.int .u8 0,.int .u8 0,.int .u8 0,.int .u8 0,.int .u8 0,.int .u8 0,.int .u8 0,.int .u8 0,.int .u8 0,.int .u8 0,.int .u8 0,.int .u8 0,.int .u8 0,.int .u8 0,.int .u8 0,.int .u8 0,.int .u8 0,.int .u8 0],leaf:=none}
@[simp] theorem ty320_by:ty320.bytes=32:=rfl
def ty321:TI:={kind:=.array 64 5,size:=64,bytes:=64,zero:=[.int .u8 0,.int .u8 0,.int .u8 0,.int .u8 0,.int .u8 0,.int .u8 0,.int .u8 0,.int .u8 0,.int .u8 0,.int .u8 0,.int .u8 0,.int .u8 0,.int .u8 0,.int .u8 0,.int .u8 0,.int .u8 0,.int .u8 0,.int .u8 0,.int .u8 0,.int .u8 0,.int .u8 0,.int .u8 0,.int .u8 0,.int .u8 0,.int .u8 0,.int .u8 0,.int .u8 0,.int .u8 0,.int .u8 0,.int .u8 0,.int .u8 0,.int .u8 0,.int .u8 0,.int .u8 0,.int .u8 0,.int .u8 0,.int .u8 0,.int .u8 0,.int .u8 0,.int .u8 0,.int .u8 0,.int .u8 0,.int .u8 0,.int .u8 0,.int .u8 0,.int .u8 0,.int .u8 0,.int .u8 0,.int .u8 0,.int .u8 0,.int .u8 0,.int .u8 0,.int .u8 0,.int .u8 0,.int .u8 0,.int .u8 0,.int .u8 0,.int .u8 0,.int .u8 0,.int .u8 0,.int .u8 0,.int .u8 0,.int .u8 0,.int .u8 0],leaf:=none}
@[simp] theorem ty321_by:ty321.bytes=64:=rfl
def ty338:TI:={kind:=.slice 343,size:=1,bytes:=24,zero:=[.slice none 0 0],leaf:=none}
@[simp] theorem ty338_by:ty338.bytes=24:=rfl
def ty339:TI:={kind:=.struct [(0,1),(1,1)] [3,338],size:=2,bytes:=32,zero:=[.int .i64 0,.slice none 0 0],leaf:=none}
@[simp] theorem ty339_by:ty339.bytes=32:=rfl
def ty340:TI:={kind:=.struct [(0,1),(1,1)] [3,338],size:=2,bytes:=32,zero:=[.int .i64 0,.slice none 0 0],leaf:=none}
@[simp] theorem ty340_by:ty340.bytes=32:=rfl
def ty342:TI:={kind:=.struct [(0,5),(5,1),(6,1)] [50,3,3],size:=7,bytes:=104,zero:=[.int .i64 0,.slice none 0 0,.slice none 0 0,.slice none 0 0,.bool false,.int .i64 0,.int .i64 0],leaf:=none}
@[simp] theorem ty342_by:ty342.bytes=104:=rfl
def ty343:TI:={kind:=.struct [(0,5),(5,1),(6,1)] [50,3,3],size:=7,bytes:=104,zero:=[.int .i64 0,.slice none 0 0,.slice none 0 0,.slice none 0 0,.bool false,.int .i64 0,.int .i64 0],leaf:=none}
@[simp] theorem ty343_by:ty343.bytes=104:=rfl
def TB:TE:=[(1,ty1),(2,ty2),(3,ty3),(4,ty4),(5,ty5),(9,ty9),(22,ty22),(23,ty23),(24,ty24),(25,ty25),(26,ty26),(27,ty27),(32,ty32),(35,ty35),(36,ty36),(37,ty37),(41,ty41),(42,ty42),(43,ty43),(44,ty44),(49,ty49),(50,ty50),(55,ty55),(56,ty56),(57,ty57),(58,ty58),(59,ty59),(60,ty60),(61,ty61),(72,ty72),(74,ty74),(75,ty75),(76,ty76),(79,ty79),(80,ty80),(81,ty81),(82,ty82),(85,ty85),(86,ty86),(88,ty88),(91,ty91),(92,ty92),(93,ty93),(95,ty95),(100,ty100),(104,ty104),(105,ty105),(106,ty106),(107,ty107),(115,ty115),(116,ty116),(117,ty117),(118,ty118),(119,ty119),(120,ty120),(121,ty121),(122,ty122),(124,ty124),(128,ty128),(129,ty129),(133,ty133),(138,ty138),(140,ty140),(141,ty141),(142,ty142),(146,ty146),(149,ty149),(155,ty155),(156,ty156),(158,ty158),(159,ty159),(161,ty161),(169,ty169),(170,ty170),(172,ty172),(174,ty174),(175,ty175),(178,ty178),(179,ty179),(180,ty180),(181,ty181),(183,ty183),(185,ty185),(186,ty186),(197,ty197),(198,ty198),(199,ty199),(202,ty202),(203,ty203),(205,ty205),(206,ty206),(210,ty210),(214,ty214),(215,ty215),(218,ty218),(231,ty231),(232,ty232),(234,ty234),(235,ty235),(236,ty236),(250,ty250),(282,ty282),(284,ty284),(299,ty299),(314,ty314),(315,ty315),(320,ty320),(321,ty321),(338,ty338),(339,ty339),(340,ty340),(342,ty342),(343,ty343)]
theorem TB_ok:TOk Tryz.prog TB:=TOk.all (by kernel_rfl) (by kernel_rfl) (by kernel_rfl) (by kernel_rfl)
theorem ty22_k:KindOk Tryz.prog 22 ty22.kind:=(TB_ok 22 ty22 rfl).kind
theorem ty23_k:KindOk Tryz.prog 23 ty23.kind:=(TB_ok 23 ty23 rfl).kind
theorem ty24_k:KindOk Tryz.prog 24 ty24.kind:=(TB_ok 24 ty24 rfl).kind
theorem ty25_k:KindOk Tryz.prog 25 ty25.kind:=(TB_ok 25 ty25 rfl).kind
theorem ty27_k:KindOk Tryz.prog 27 ty27.kind:=(TB_ok 27 ty27 rfl).kind
theorem ty57_k:KindOk Tryz.prog 57 ty57.kind:=(TB_ok 57 ty57 rfl).kind
theorem ty59_k:KindOk Tryz.prog 59 ty59.kind:=(TB_ok 59 ty59 rfl).kind
theorem ty61_k:KindOk Tryz.prog 61 ty61.kind:=(TB_ok 61 ty61 rfl).kind
theorem ty92_k:KindOk Tryz.prog 92 ty92.kind:=(TB_ok 92 ty92 rfl).kind
theorem ty156_k:KindOk Tryz.prog 156 ty156.kind:=(TB_ok 156 ty156 rfl).kind
theorem ty159_k:KindOk Tryz.prog 159 ty159.kind:=(TB_ok 159 ty159 rfl).kind
theorem leaf55:LeafOk Tryz.prog 55 [.int .i64,.int .i64,.int .i64,.int .i64,.bool]:=LeafOk.of (n:=9) TB_ok rfl (by decide) (by kernel_rfl) (by kernel_rfl)
def ty55e:TI:={ty55 with leaf:=some [.int .i64,.int .i64,.int .i64,.int .i64,.bool]}
@[simp] theorem ty55e_by:ty55e.bytes=40:=rfl
theorem leaf56:LeafOk Tryz.prog 56 [.int .i64,.int .i64,.int .i64,.int .i64,.bool]:=LeafOk.of (n:=9) TB_ok rfl (by decide) (by kernel_rfl) (by kernel_rfl)
def ty56e:TI:={ty56 with leaf:=some [.int .i64,.int .i64,.int .i64,.int .i64,.bool]}
@[simp] theorem ty56e_by:ty56e.bytes=40:=rfl
theorem leaf58:LeafOk Tryz.prog 58 [.int .i64,.int .i64]:=LeafOk.of (n:=9) TB_ok rfl (by decide) (by kernel_rfl) (by kernel_rfl)
def ty58e:TI:={ty58 with leaf:=some [.int .i64,.int .i64]}
@[simp] theorem ty58e_by:ty58e.bytes=16:=rfl
theorem leaf59:LeafOk Tryz.prog 59 [.int .i64,.int .i64]:=LeafOk.of (n:=9) TB_ok rfl (by decide) (by kernel_rfl) (by kernel_rfl)
def ty59e:TI:={ty59 with leaf:=some [.int .i64,.int .i64]}
@[simp] theorem ty59e_by:ty59e.bytes=16:=rfl
theorem leaf91:LeafOk Tryz.prog 91 [.int .i64,.int .i64,.int .i64,.int .i64,.int .i64,.int .i64,.int .i64]:=LeafOk.of (n:=9) TB_ok rfl (by decide) (by kernel_rfl) (by kernel_rfl)
def ty91e:TI:={ty91 with leaf:=some [.int .i64,.int .i64,.int .i64,.int .i64,.int .i64,.int .i64,.int .i64]}
@[simp] theorem ty91e_by:ty91e.bytes=56:=rfl
theorem leaf92:LeafOk Tryz.prog 92 [.int .i64,.int .i64,.int .i64,.int .i64,.int .i64,.int .i64,.int .i64]:=LeafOk.of (n:=9) TB_ok rfl (by decide) (by kernel_rfl) (by kernel_rfl)
def ty92e:TI:={ty92 with leaf:=some [.int .i64,.int .i64,.int .i64,.int .i64,.int .i64,.int .i64,.int .i64]}
@[simp] theorem ty92e_by:ty92e.bytes=56:=rfl
theorem leaf119:LeafOk Tryz.prog 119 [.int .i64,.int .i64,.int .i64]:=LeafOk.of (n:=9) TB_ok rfl (by decide) (by kernel_rfl) (by kernel_rfl)
def ty119e:TI:={ty119 with leaf:=some [.int .i64,.int .i64,.int .i64]}
@[simp] theorem ty119e_by:ty119e.bytes=24:=rfl
theorem leaf120:LeafOk Tryz.prog 120 [.int .i64,.int .i64,.int .i64]:=LeafOk.of (n:=9) TB_ok rfl (by decide) (by kernel_rfl) (by kernel_rfl)
def ty120e:TI:={ty120 with leaf:=some [.int .i64,.int .i64,.int .i64]}
@[simp] theorem ty120e_by:ty120e.bytes=24:=rfl
theorem leaf155:LeafOk Tryz.prog 155 [.int .i64,.int .i64]:=LeafOk.of (n:=9) TB_ok rfl (by decide) (by kernel_rfl) (by kernel_rfl)
def ty155e:TI:={ty155 with leaf:=some [.int .i64,.int .i64]}
@[simp] theorem ty155e_by:ty155e.bytes=16:=rfl
theorem leaf156:LeafOk Tryz.prog 156 [.int .i64,.int .i64]:=LeafOk.of (n:=9) TB_ok rfl (by decide) (by kernel_rfl) (by kernel_rfl)
def ty156e:TI:={ty156 with leaf:=some [.int .i64,.int .i64]}
@[simp] theorem ty156e_by:ty156e.bytes=16:=rfl
theorem leaf158:LeafOk Tryz.prog 158 [.string,.int .i64,.int .i64,.int .i64,.int .i64]:=LeafOk.of (n:=9) TB_ok rfl (by decide) (by kernel_rfl) (by kernel_rfl)
def ty158e:TI:={ty158 with leaf:=some [.string,.int .i64,.int .i64,.int .i64,.int .i64]}
@[simp] theorem ty158e_by:ty158e.bytes=48:=rfl
theorem leaf159:LeafOk Tryz.prog 159 [.string,.int .i64,.int .i64,.int .i64,.int .i64]:=LeafOk.of (n:=9) TB_ok rfl (by decide) (by kernel_rfl) (by kernel_rfl)
def ty159e:TI:={ty159 with leaf:=some [.string,.int .i64,.int .i64,.int .i64,.int .i64]}
@[simp] theorem ty159e_by:ty159e.bytes=48:=rfl
theorem leaf174:LeafOk Tryz.prog 174 [.int .i64,.int .i64]:=LeafOk.of (n:=9) TB_ok rfl (by decide) (by kernel_rfl) (by kernel_rfl)
def ty174e:TI:={ty174 with leaf:=some [.int .i64,.int .i64]}
@[simp] theorem ty174e_by:ty174e.bytes=16:=rfl
theorem leaf175:LeafOk Tryz.prog 175 [.int .i64,.int .i64]:=LeafOk.of (n:=9) TB_ok rfl (by decide) (by kernel_rfl) (by kernel_rfl)
def ty175e:TI:={ty175 with leaf:=some [.int .i64,.int .i64]}
@[simp] theorem ty175e_by:ty175e.bytes=16:=rfl
def TT:TE:=[(55,ty55e),(56,ty56e),(58,ty58e),(59,ty59e),(91,ty91e),(92,ty92e),(119,ty119e),(120,ty120e),(155,ty155e),(156,ty156e),(158,ty158e),(159,ty159e),(174,ty174e),(175,ty175e),(1,ty1),(2,ty2),(3,ty3),(4,ty4),(5,ty5),(9,ty9),(22,ty22),(23,ty23),(24,ty24),(25,ty25),(26,ty26),(27,ty27),(32,ty32),(35,ty35),(36,ty36),(37,ty37),(41,ty41),(42,ty42),(43,ty43),(44,ty44),(49,ty49),(50,ty50),(55,ty55),(56,ty56),(57,ty57),(58,ty58),(59,ty59),(60,ty60),(61,ty61),(72,ty72),(74,ty74),(75,ty75),(76,ty76),(79,ty79),(80,ty80),(81,ty81),(82,ty82),(85,ty85),(86,ty86),(88,ty88),(91,ty91),(92,ty92),(93,ty93),(95,ty95),(100,ty100),(104,ty104),(105,ty105),(106,ty106),(107,ty107),(115,ty115),(116,ty116),(117,ty117),(118,ty118),(119,ty119),(120,ty120),(121,ty121),(122,ty122),(124,ty124),(128,ty128),(129,ty129),(133,ty133),(138,ty138),(140,ty140),(141,ty141),(142,ty142),(146,ty146),(149,ty149),(155,ty155),(156,ty156),(158,ty158),(159,ty159),(161,ty161),(169,ty169),(170,ty170),(172,ty172),(174,ty174),(175,ty175),(178,ty178),(179,ty179),(180,ty180),(181,ty181),(183,ty183),(185,ty185),(186,ty186),(197,ty197),(198,ty198),(199,ty199),(202,ty202),(203,ty203),(205,ty205),(206,ty206),(210,ty210),(214,ty214),(215,ty215),(218,ty218),(231,ty231),(232,ty232),(234,ty234),(235,ty235),(236,ty236),(250,ty250),(282,ty282),(284,ty284),(299,ty299),(314,ty314),(315,ty315),(320,ty320),(321,ty321),(338,ty338),(339,ty339),(340,ty340),(342,ty342),(343,ty343)]
theorem TT_ok:TOk Tryz.prog TT:=TOk.leaf TB_ok (TOk.leaf TB_ok (TOk.leaf TB_ok (TOk.leaf TB_ok (TOk.leaf TB_ok (TOk.leaf TB_ok (TOk.leaf TB_ok (TOk.leaf TB_ok (TOk.leaf TB_ok (TOk.leaf TB_ok (TOk.leaf TB_ok (TOk.leaf TB_ok (TOk.leaf TB_ok (TOk.leaf TB_ok (TB_ok) (ti:=ty175) rfl leaf175) (ti:=ty174) rfl leaf174) (ti:=ty159) rfl leaf159) (ti:=ty158) rfl leaf158) (ti:=ty156) rfl leaf156) (ti:=ty155) rfl leaf155) (ti:=ty120) rfl leaf120) (ti:=ty119) rfl leaf119) (ti:=ty92) rfl leaf92) (ti:=ty91) rfl leaf91) (ti:=ty59) rfl leaf59) (ti:=ty58) rfl leaf58) (ti:=ty56) rfl leaf56) (ti:=ty55) rfl leaf55
end Go.Proofs.YtgpkkllbejgmlaaGreatDoor
