import Derived.Shelf.Strings.Builder1
import Derived.Shelf.Strings.Builder2
import Derived.Shelf.Small.Bits
import Derived.Shelf.Strings.BuilderF
import Derived.Shelf.Strconv.Itoa0
import Derived.Shelf.Strconv.Itoa1
import Derived.Shelf.LaysM
import Derived.Shelf.Strconv.Itoa2
import Derived.Shelf.Strconv.Itoa3
import Derived.Shelf.Strings.Prefix
import Derived.Shelf.Bits.Mul64
import Derived.Shelf.Strings.Repeat
import Derived.Test.YtlcfoelfcnhenaaGreatDoorProg
import Derived.Test.YtlcfoelfcnhenaaGreatDoorZz14
import Derived.Test.YtlcfoelfcnhenaaGreatDoorZz15
import Derived.Test.YtlcfoelfcnhenaaGreatDoorTys
import Derived.Test.YtlcfoelfcnhenaaGreatDoorZz16
import Derived.Test.YtlcfoelfcnhenaaGreatDoorZz18
import Derived.Lib.ItoaLen
set_option linter.unusedSimpArgs false
set_option linter.unusedVariables false
set_option maxRecDepth 10000
section
namespace Go.Proofs
open Go.Shelf
def Tryz.lays125_ren : Go.Shelf.Ren := ⟨fun | 125 => 55 | 128 => 99 | 129 => 100 | n => n, fun | 46 => 135 | 3 => 3 | 51 => 168 | 53 => 186 | 4 => 4 | 5 => 5 | 9 => 9 | n => n, fun | n => n⟩
theorem Tryz.lays125 : Go.Proofs.Lays.n125 Tryz.prog Tryz.lays125_ren := {
  mixed := by kernel_rfl
  f125 := Tryz.func55.trans (congrArg some (by kernel_rfl))
  f128 := Tryz.func99.trans (congrArg some (by kernel_rfl))
  f129 := Tryz.func100.trans (congrArg some (by kernel_rfl))
  t3 := Tryz.underlying3
  a3 := Tryz.isAgg3
  z3 := Tryz.sizeOf3
  v3 := Tryz.zeroValue3
  t4 := Tryz.underlying4
  a4 := Tryz.isAgg4
  z4 := Tryz.sizeOf4
  v4 := Tryz.zeroValue4
  t5 := Tryz.underlying5
  a5 := Tryz.isAgg5
  z5 := Tryz.sizeOf5
  v5 := Tryz.zeroValue5
  t9 := Tryz.underlying9
  a9 := Tryz.isAgg9
  z9 := Tryz.sizeOf9
  v9 := Tryz.zeroValue9
  t46 := Tryz.underlying135
  a46 := Tryz.isAgg135
  z46 := Tryz.sizeOf135
  v46 := Tryz.zeroValue135
  t51 := Tryz.underlying168
  a51 := Tryz.isAgg168
  z51 := Tryz.sizeOf168
  v51 := Tryz.zeroValue168
  t53 := Tryz.underlying186
  a53 := Tryz.isAgg186
  z53 := Tryz.sizeOf186
  v53 := Tryz.zeroValue186 }
theorem Tryz.bits_Len (x : Int) (w : World) (h0 : 0 ≤ x) (h1 : x ≤ 18446744073709551615) :
    Calls Tryz.prog 55 #[.int .u64 x] w fun e w' => e = .returned (.int .i64 (Lib.bitLen x.toNat)) ∧ w' = w := Any.bits_Len Tryz.lays125 x w h0 h1
def Tryz.lays283_ren : Go.Shelf.Ren := ⟨fun | 283 => 159 | n => n, fun | 3 => 3 | 9 => 9 | 4 => 4 | n => n, fun | n => n⟩
theorem Tryz.lays283 : Go.Proofs.Lays.n283 Tryz.prog Tryz.lays283_ren := {
  mixed := by kernel_rfl
  f283 := Tryz.func159.trans (congrArg some (by kernel_rfl))
  t3 := Tryz.underlying3
  a3 := Tryz.isAgg3
  z3 := Tryz.sizeOf3
  v3 := Tryz.zeroValue3
  t4 := Tryz.underlying4
  a4 := Tryz.isAgg4
  z4 := Tryz.sizeOf4
  v4 := Tryz.zeroValue4
  t9 := Tryz.underlying9
  a9 := Tryz.isAgg9
  z9 := Tryz.sizeOf9
  v9 := Tryz.zeroValue9 }
open Go.Lib in
theorem Tryz.internal_strconv_small (i : Nat) (h : i < 100) (w : World) :
    Calls Tryz.prog 159 #[.int .i64 i] w fun e w' => e = .returned (.string ⟨(Lib.decDigits i).toArray⟩) ∧ w' = w := Any.internal_strconv_small Tryz.lays283 i h w
def Tryz.laysM284_ren : Go.Shelf.Ren := ⟨fun | 284 => 160 | 129 => 100 | 317 => 180 | 318 => 181 | n => n, fun | 53 => 186 | 3 => 3 | 212 => 255 | 0 => 0 | 4 => 4 | 46 => 135 | 5 => 5 | 9 => 9 | n => n, fun | 17 => 1 | n => n⟩
theorem Tryz.laysM284 : Go.Proofs.LaysM.n284 Tryz.prog Tryz.laysM284_ren := {
  mixed := by kernel_rfl
  f129 := Tryz.func100.trans (congrArg some (by kernel_rfl))
  f284 := Tryz.func160.trans (congrArg some (by kernel_rfl))
  f317 := Tryz.func180.trans (congrArg some (by kernel_rfl))
  f318 := Tryz.func181.trans (congrArg some (by kernel_rfl))
  t0 := Tryz.underlying0
  a0 := Tryz.isAgg0
  z0 := Tryz.sizeOf0
  v0 := Tryz.zeroValue0
  t3 := Tryz.underlying3
  a3 := Tryz.isAgg3
  z3 := Tryz.sizeOf3
  v3 := Tryz.zeroValue3
  t4 := Tryz.underlying4
  a4 := Tryz.isAgg4
  z4 := Tryz.sizeOf4
  v4 := Tryz.zeroValue4
  t5 := Tryz.underlying5
  a5 := Tryz.isAgg5
  z5 := Tryz.sizeOf5
  v5 := Tryz.zeroValue5
  t9 := Tryz.underlying9
  a9 := Tryz.isAgg9
  z9 := Tryz.sizeOf9
  v9 := Tryz.zeroValue9
  t46 := Tryz.underlying135
  a46 := Tryz.isAgg135
  z46 := Tryz.sizeOf135
  v46 := Tryz.zeroValue135
  t53 := Tryz.underlying186
  a53 := Tryz.isAgg186
  z53 := Tryz.sizeOf186
  v53 := Tryz.zeroValue186
  t212 := Tryz.underlying255
  a212 := Tryz.isAgg255
  z212 := Tryz.sizeOf255
  v212 := Tryz.zeroValue255
  g17 := by kernel_rfl
  i0 := by kernel_rfl
  i3 := by kernel_rfl
  i4 := by kernel_rfl
  i5 := by kernel_rfl
  i9 := by kernel_rfl
  i46 := by kernel_rfl
  i53 := by kernel_rfl
  i212 := by kernel_rfl
  m17 := by kernel_rfl }
open Go.Lib in
theorem Tryz.internal_strconv_numDigits (u : Nat) (h1 : 1 ≤ u) (h2 : u < 18446744073709551616) (w : World) (htab : Lib.TabIs Tryz.prog w "internal/strconv.uint64pow10" .u64 Lib.pow10Tab) :
    Calls Tryz.prog 160 #[.int .u64 u] w fun e w' => e = .returned (.int .i64 (Lib.nDigits u)) ∧ w' = w := Any.internal_strconv_numDigits Tryz.laysM284 u h1 h2 w htab
def Tryz.lays285_ren : Go.Shelf.Ren := ⟨fun | 285 => 161 | n => n, fun | 37 => 172 | 53 => 186 | 3 => 3 | 4 => 4 | 51 => 168 | 9 => 9 | 5 => 5 | 0 => 0 | n => n, fun | n => n⟩
theorem Tryz.lays285 : Go.Proofs.Lays.n285 Tryz.prog Tryz.lays285_ren := {
  mixed := by kernel_rfl
  f285 := Tryz.func161.trans (congrArg some (by kernel_rfl))
  t0 := Tryz.underlying0
  a0 := Tryz.isAgg0
  z0 := Tryz.sizeOf0
  v0 := Tryz.zeroValue0
  t3 := Tryz.underlying3
  a3 := Tryz.isAgg3
  z3 := Tryz.sizeOf3
  v3 := Tryz.zeroValue3
  t4 := Tryz.underlying4
  a4 := Tryz.isAgg4
  z4 := Tryz.sizeOf4
  v4 := Tryz.zeroValue4
  t5 := Tryz.underlying5
  a5 := Tryz.isAgg5
  z5 := Tryz.sizeOf5
  v5 := Tryz.zeroValue5
  t9 := Tryz.underlying9
  a9 := Tryz.isAgg9
  z9 := Tryz.sizeOf9
  v9 := Tryz.zeroValue9
  t37 := Tryz.underlying172
  a37 := Tryz.isAgg172
  z37 := Tryz.sizeOf172
  v37 := Tryz.zeroValue172
  t51 := Tryz.underlying168
  a51 := Tryz.isAgg168
  z51 := Tryz.sizeOf168
  v51 := Tryz.zeroValue168
  t53 := Tryz.underlying186
  a53 := Tryz.isAgg186
  z53 := Tryz.sizeOf186
  v53 := Tryz.zeroValue186 }
open Go.RowKit Go.Sort Go.Lib in
theorem Tryz.internal_strconv_formatBase10 (blk off cap : Nat) (u : Nat) (d : Array UInt8) (w : World) (hH : Holds (fun (b : UInt8) => Value.int .u8 (b.toNat : Int)) w blk off d) (hu : u < 10 ^ d.size) (hu64 : u < 18446744073709551616) (hsz : d.size < 4611686018427387904) :
    Calls Tryz.prog 161 #[.slice (some ⟨blk, off, none⟩) d.size cap, .int .u64 u] w fun e w' =>
      e = .returned (.tuple #[]) ∧ ∃ (n v' : Nat) (dk : Array UInt8), w' = (putRow (fun (b : UInt8) => Value.int .u8 (b.toNat : Int)) w blk off dk).drewN n ∧ FmtInv d.size u 0 v' dk := Any.internal_strconv_formatBase10 Tryz.lays285 blk off cap u d w hH hu hu64 hsz
def Tryz.laysM171_ren : Go.Shelf.Ren := ⟨fun | 171 => 46 | 243 => 83 | 246 => 127 | 283 => 159 | 284 => 160 | 285 => 161 | 286 => 162 | 129 => 100 | 317 => 180 | 318 => 181 | 319 => 182 | 320 => 183 | 337 => 190 | 338 => 191 | n => n, fun | 3 => 3 | 9 => 9 | 2 => 2 | 4 => 4 | 171 => 226 | 0 => 0 | 53 => 186 | 37 => 172 | 5 => 5 | 173 => 228 | 212 => 255 | 51 => 168 | 20 => 20 | 213 => 256 | 46 => 135 | 232 => 267 | 233 => 268 | n => n, fun | 17 => 1 | 18 => 2 | 19 => 3 | n => n⟩
theorem Tryz.laysM171 : Go.Proofs.LaysM.n171 Tryz.prog Tryz.laysM171_ren := {
  mixed := by kernel_rfl
  f129 := Tryz.func100.trans (congrArg some (by kernel_rfl))
  f171 := Tryz.func46.trans (congrArg some (by kernel_rfl))
  f243 := Tryz.func83.trans (congrArg some (by kernel_rfl))
  f246 := Tryz.func127.trans (congrArg some (by kernel_rfl))
  f283 := Tryz.func159.trans (congrArg some (by kernel_rfl))
  f284 := Tryz.func160.trans (congrArg some (by kernel_rfl))
  f285 := Tryz.func161.trans (congrArg some (by kernel_rfl))
  f286 := Tryz.func162.trans (congrArg some (by kernel_rfl))
  f317 := Tryz.func180.trans (congrArg some (by kernel_rfl))
  f318 := Tryz.func181.trans (congrArg some (by kernel_rfl))
  f319 := Tryz.func182.trans (congrArg some (by kernel_rfl))
  f320 := Tryz.func183.trans (congrArg some (by kernel_rfl))
  f337 := Tryz.func190.trans (congrArg some (by kernel_rfl))
  f338 := Tryz.func191.trans (congrArg some (by kernel_rfl))
  t0 := Tryz.underlying0
  a0 := Tryz.isAgg0
  z0 := Tryz.sizeOf0
  v0 := Tryz.zeroValue0
  t2 := Tryz.underlying2
  a2 := Tryz.isAgg2
  z2 := Tryz.sizeOf2
  v2 := Tryz.zeroValue2
  t3 := Tryz.underlying3
  a3 := Tryz.isAgg3
  z3 := Tryz.sizeOf3
  v3 := Tryz.zeroValue3
  t4 := Tryz.underlying4
  a4 := Tryz.isAgg4
  z4 := Tryz.sizeOf4
  v4 := Tryz.zeroValue4
  t5 := Tryz.underlying5
  a5 := Tryz.isAgg5
  z5 := Tryz.sizeOf5
  v5 := Tryz.zeroValue5
  t9 := Tryz.underlying9
  a9 := Tryz.isAgg9
  z9 := Tryz.sizeOf9
  v9 := Tryz.zeroValue9
  t20 := Tryz.underlying20
  a20 := Tryz.isAgg20
  z20 := Tryz.sizeOf20
  v20 := Tryz.zeroValue20
  t37 := Tryz.underlying172
  a37 := Tryz.isAgg172
  z37 := Tryz.sizeOf172
  v37 := Tryz.zeroValue172
  t46 := Tryz.underlying135
  a46 := Tryz.isAgg135
  z46 := Tryz.sizeOf135
  v46 := Tryz.zeroValue135
  t51 := Tryz.underlying168
  a51 := Tryz.isAgg168
  z51 := Tryz.sizeOf168
  v51 := Tryz.zeroValue168
  t53 := Tryz.underlying186
  a53 := Tryz.isAgg186
  z53 := Tryz.sizeOf186
  v53 := Tryz.zeroValue186
  t171 := Tryz.underlying226
  a171 := Tryz.isAgg226
  z171 := Tryz.sizeOf226
  v171 := Tryz.zeroValue226
  t173 := Tryz.underlying228
  a173 := Tryz.isAgg228
  z173 := Tryz.sizeOf228
  v173 := Tryz.zeroValue228
  t212 := Tryz.underlying255
  a212 := Tryz.isAgg255
  z212 := Tryz.sizeOf255
  v212 := Tryz.zeroValue255
  t213 := Tryz.underlying256
  a213 := Tryz.isAgg256
  z213 := Tryz.sizeOf256
  t232 := Tryz.underlying267
  a232 := Tryz.isAgg267
  z232 := Tryz.sizeOf267
  v232 := Tryz.zeroValue267
  t233 := Tryz.underlying268
  a233 := Tryz.isAgg268
  z233 := Tryz.sizeOf268
  v233 := Tryz.zeroValue268
  g17 := by kernel_rfl
  g18 := by kernel_rfl
  g19 := by kernel_rfl
  i0 := by kernel_rfl
  i2 := by kernel_rfl
  i3 := by kernel_rfl
  i4 := by kernel_rfl
  i5 := by kernel_rfl
  i9 := by kernel_rfl
  i20 := by kernel_rfl
  i37 := by kernel_rfl
  i46 := by kernel_rfl
  i51 := by kernel_rfl
  i53 := by kernel_rfl
  i171 := by kernel_rfl
  i173 := by kernel_rfl
  i212 := by kernel_rfl
  i232 := by kernel_rfl
  i233 := by kernel_rfl
  m17 := by kernel_rfl
  m18 := by kernel_rfl
  m19 := by kernel_rfl }
open Go.RowKit Go.Sort Go.Lib in
theorem Tryz.strconv_Itoa (n : Int) (h0 : -9223372036854775808 ≤ n) (h1 : n ≤ 9223372036854775807) (w : World) (htab : Lib.TabIs Tryz.prog w "internal/strconv.uint64pow10" .u64 Lib.pow10Tab) :
    Calls Tryz.prog 46 #[.int .i64 n] w fun e w' => e = .returned (.string ⟨(Lib.itoa n).toArray⟩) ∧ ∃ k os, w' = grow (w.drewN k) os := Any.strconv_Itoa Tryz.laysM171 n h0 h1 w htab
def Tryz.lays105_ren : Go.Shelf.Ren := ⟨fun | 105 => 129 | 212 => 164 | 99 => 165 | 165 => 166 | 166 => 167 | 170 => 168 | 169 => 169 | 263 => 184 | 264 => 185 | 206 => 186 | 240 => 187 | 241 => 188 | 276 => 192 | 277 => 193 | n => n, fun | 9 => 9 | 3 => 3 | 4 => 4 | 20 => 20 | 0 => 0 | 46 => 135 | 109 => 231 | 5 => 5 | 72 => 236 | 76 => 239 | 51 => 168 | 146 => 257 | 53 => 186 | 148 => 259 | 70 => 234 | 37 => 172 | 75 => 238 | 127 => 261 | 164 => 264 | 80 => 242 | n => n, fun | n => n⟩
theorem Tryz.lays105 : Go.Proofs.Lays.n105 Tryz.prog Tryz.lays105_ren := {
  mixed := by kernel_rfl
  f99 := Tryz.func165.trans (congrArg some (by kernel_rfl))
  f105 := Tryz.func129.trans (congrArg some (by kernel_rfl))
  f165 := Tryz.func166.trans (congrArg some (by kernel_rfl))
  f166 := Tryz.func167.trans (congrArg some (by kernel_rfl))
  f169 := Tryz.func169.trans (congrArg some (by kernel_rfl))
  f170 := Tryz.func168.trans (congrArg some (by kernel_rfl))
  f206 := Tryz.func186.trans (congrArg some (by kernel_rfl))
  f212 := Tryz.func164.trans (congrArg some (by kernel_rfl))
  f240 := Tryz.func187.trans (congrArg some (by kernel_rfl))
  f241 := Tryz.func188.trans (congrArg some (by kernel_rfl))
  f263 := Tryz.func184.trans (congrArg some (by kernel_rfl))
  f264 := Tryz.func185.trans (congrArg some (by kernel_rfl))
  f276 := Tryz.func192.trans (congrArg some (by kernel_rfl))
  f277 := Tryz.func193.trans (congrArg some (by kernel_rfl))
  t0 := Tryz.underlying0
  a0 := Tryz.isAgg0
  z0 := Tryz.sizeOf0
  v0 := Tryz.zeroValue0
  t3 := Tryz.underlying3
  a3 := Tryz.isAgg3
  z3 := Tryz.sizeOf3
  v3 := Tryz.zeroValue3
  t4 := Tryz.underlying4
  a4 := Tryz.isAgg4
  z4 := Tryz.sizeOf4
  v4 := Tryz.zeroValue4
  t5 := Tryz.underlying5
  a5 := Tryz.isAgg5
  z5 := Tryz.sizeOf5
  v5 := Tryz.zeroValue5
  t9 := Tryz.underlying9
  a9 := Tryz.isAgg9
  z9 := Tryz.sizeOf9
  v9 := Tryz.zeroValue9
  t20 := Tryz.underlying20
  a20 := Tryz.isAgg20
  z20 := Tryz.sizeOf20
  v20 := Tryz.zeroValue20
  t37 := Tryz.underlying172
  a37 := Tryz.isAgg172
  z37 := Tryz.sizeOf172
  v37 := Tryz.zeroValue172
  t46 := Tryz.underlying135
  a46 := Tryz.isAgg135
  z46 := Tryz.sizeOf135
  v46 := Tryz.zeroValue135
  t51 := Tryz.underlying168
  a51 := Tryz.isAgg168
  z51 := Tryz.sizeOf168
  v51 := Tryz.zeroValue168
  t53 := Tryz.underlying186
  a53 := Tryz.isAgg186
  z53 := Tryz.sizeOf186
  v53 := Tryz.zeroValue186
  t70 := Tryz.underlying234
  a70 := Tryz.isAgg234
  z70 := Tryz.sizeOf234
  v70 := Tryz.zeroValue234
  t72 := Tryz.underlying236
  a72 := Tryz.isAgg236
  z72 := Tryz.sizeOf236
  v72 := Tryz.zeroValue236
  t75 := Tryz.underlying238
  a75 := Tryz.isAgg238
  z75 := Tryz.sizeOf238
  v75 := Tryz.zeroValue238
  t76 := Tryz.underlying239
  a76 := Tryz.isAgg239
  z76 := Tryz.sizeOf239
  v76 := Tryz.zeroValue239
  t109 := Tryz.underlying231
  a109 := Tryz.isAgg231
  z109 := Tryz.sizeOf231
  v109 := Tryz.zeroValue231
  t127 := Tryz.underlying261
  a127 := Tryz.isAgg261
  z127 := Tryz.sizeOf261
  v127 := Tryz.zeroValue261
  t146 := Tryz.underlying257
  a146 := Tryz.isAgg257
  z146 := Tryz.sizeOf257
  v146 := Tryz.zeroValue257
  t148 := Tryz.underlying259
  a148 := Tryz.isAgg259
  z148 := Tryz.sizeOf259
  v148 := Tryz.zeroValue259
  t164 := Tryz.underlying264
  a164 := Tryz.isAgg264
  z164 := Tryz.sizeOf264
  v164 := Tryz.zeroValue264 }
theorem Tryz.Builder_Extra_105 : Builder.Extra Tryz.prog Tryz.lays105_ren := {
  sizeBuilder := by kernel_rfl
  liesBuilder := by kernel_rfl
  t5 := Tryz.underlying5
  a5 := Tryz.isAgg5
  z5 := Tryz.sizeOf5
  v5 := Tryz.zeroValue5
  infoByte := by kernel_rfl
  cellsByte := by kernel_rfl
  sizeByte := by kernel_rfl
  neB5 := by decide }
open Go.RowKit Go.Lib in
theorem Tryz.strings_Repeat (s : ByteArray) (c : Nat) (w : World) (hc : c ≤ 9223372036854775807) (hlen : s.size * c ≤ 140737488355328) :
    Calls Tryz.prog 129 #[.string s, .int .i64 c] w fun e w' => e = .returned (.string ⟨(Lib.repeatL s.data.toList c).toArray⟩) ∧ Below w.heap.size w w' := Any.strings_Repeat Tryz.lays105 Tryz.Builder_Extra_105 s c w hc hlen
end Go.Proofs
end
namespace Go.Proofs.YtlcfoelfcnhenaaGreatDoor
section
open Go.Eng Go.RowKit Go.Lib Go.Sort
theorem Does.of_gl {P : Program} {f : FuncId} {args : List Value} {v : Value} (hf : FnOk P f) (h : ∀ w G, GlIn w G → Calls P f args.toArray w fun e w' => e = .returned v ∧ Keep (fun _ => False) w w') : Does P f (args.map AV.c) (.c v) := by
  refine ⟨hf, fun w G vs hs hG hgl ha => ?_⟩
  have : vs = args.toArray := by
    apply Array.ext
    · simpa using hs
    · intro i h1 h2
      have hx : (args.map AV.c)[i]? = some (.c args[i]) := by simp at h2; simp [h2]
      have e := (ha i _ hx).c_inv
      simpa [h1] using e
  subst this
  refine (h w G hgl).mono ?_
  rintro e w' ⟨rfl, hk⟩
  exact ⟨v, rfl, hk, .c⟩
theorem Keep.of_grow (w : World) (k : Nat) (os : Array Obj) : Keep (fun _ => False) w (grow (w.drewN k) os) :=
  ⟨rfl, rfl, rfl, by simp [grow, World.drewN], fun b hb _ => by simp [grow, World.drewN, Array.getElem?_append_left hb], fun _ => by simp [grow, World.drewN]⟩
def pow10V : List Value := (List.range 20).map fun i => .int .u64 ((10 ^ i : Nat) : Int)
theorem tabIs {w : World} {G : Nat → Prop} (h : GlIn w G) : Lib.TabIs Tryz.prog w "internal/strconv.uint64pow10" .u64 Lib.pow10Tab := by
  obtain ⟨_, t, fz, hh⟩ := h (1, pow10V) (glF_mem (by rfl))
  have hg : Tryz.prog.globalNamed "internal/strconv.uint64pow10" = some 1 := by kernel_rfl
  have hl : pow10V = Lib.pow10Tab.map fun z => Value.int .u64 z := by rfl
  simp only [Lib.TabIs, World.var?, hg, Option.bind_some, hh, hl]
def itoaS (n : Int) : Value := .string ⟨(Lib.itoa n).toArray⟩
theorem itoa_ok (n : Int) (h0 : -9223372036854775808 ≤ n) (h1 : n ≤ 9223372036854775807) : Does Tryz.prog 46 [.c (.int .i64 n)] (.c (itoaS n)) :=
  Does.of_gl (args := [.int .i64 n]) ⟨_, Tryz.func46, rfl, by kernel_rfl⟩ fun w G hgl => (Tryz.strconv_Itoa n h0 h1 w (tabIs hgl)).mono fun e w' ⟨h, k, os, hw⟩ => ⟨h, hw ▸ Keep.of_grow w k os⟩
def repS (s : ByteArray) (c : Nat) : Value := .string ⟨(Lib.repeatL s.data.toList c).toArray⟩
theorem repeat_ok (s : ByteArray) (c : Nat) (hc : c ≤ 9223372036854775807) (hlen : s.size * c ≤ 140737488355328) : Does Tryz.prog 129 [.c (.string s), .c (.int .i64 c)] (.c (repS s c)) :=
  Does.of_gl (args := [.string s, .int .i64 c]) ⟨_, Tryz.func129, rfl, by kernel_rfl⟩ fun w G hgl => (Tryz.strings_Repeat s c w hc hlen).mono fun e w' ⟨h, hb⟩ => ⟨h, Keep.of_below' hb rfl⟩
end
section
open Go.Eng Go.RowKit Go.Lib Go.Sort
theorem wrap64_nn (n : Int) : 0 ≤ IntKind.u64.wrap n := by rw [IntKind.wrap_u64]; omega
def rotA (k : Int) : Int := bits .and .u64 (IntKind.u64.wrap k) 31
def rotB (k : Int) : Int := IntKind.u64.wrap (32 - rotA k)
def rotl (x k : Int) : Int := bits .or .u32 (IntKind.u32.wrap (x * 2 ^ (min (rotA k).toNat IntKind.u32.bits))) (x.fdiv (2 ^ (min (rotB k).toNat IntKind.u32.bits)))
theorem rotate_ok (x k : Int) : Does Tryz.prog 163 [.c (.int .u32 x), .c (.int .i64 k)] (.c (.int .u32 (rotl x k))) := by
  have h1 : 0 ≤ rotA k := wrap64_nn _
  have h2 : 0 ≤ rotB k := wrap64_nn _
  unfold rotl
  refine Does.mk (fun d => Nat.beq d 7 || Nat.beq d 14) TT_ok Tryz.func163 rfl (by kernel_rfl) Tryz.ntmps163 rfl rfl fun E hT hE hN hR => ?_
  have hm := mixO hE
  (repeat (first | refine XK.n ?_ | refine XK.a ?_ | refine XK.b ?_))
  refine XK.weak (Weak.of (L := [(0, .c (.int .u32 x)), (5, .c (.int .u64 (rotA k)))]) (O := []) (nx := 1000) (nt := 17) (md := fun d => Nat.beq d 14) hN rfl rfl rfl frI frI) ?_
  refine XK.rgnA hT rfl rfl rfl (ho := ⟨h1, h2⟩) ?_
  (first | refine XK.o ?_ | refine XK.p ?_)
  rfl
def rotT (x : Int) (ds : List Int) : Nat → Int
  | 0 => 0
  | i + 1 => bits .xor .u32 (rotT x ds i) (rotl x (0 - ds.getD i default))
def intsR (ds : List Int) : AV := .rs 1 ds.length (rowOf (ds.map fun d => .c (.int .i64 d)) 1)
theorem rowOf_ints (ds : List Int) {i : Nat} (h : i < ds.length) : rowOf (ds.map fun d => AV.c (.int .i64 d)) 1 i = iC (ds.getD i default) := by
  unfold rowOf
  rw [Nat.mul_one, List.drop_eq_getElem_cons (by simpa using h)]
  simp [iC, List.getD, h]
theorem rotated_ok (x : Int) (ds : List Int) (hd : ∀ d ∈ ds, 0 ≤ d ∧ d ≤ 64) (hl : ds.length ≤ 64) : Does Tryz.prog 128 [.c (.int .u32 x), intsR ds] (.c (.int .u32 (rotT x ds ds.length))) := by
  refine Does.mk (fun _ => false) TT_ok Tryz.func128 rfl (by kernel_rfl) Tryz.ntmps128 rfl rfl fun E hT hE hN hR => ?_
  have hm := mixO hE
  refine XK.weak (Weak.of (L := [(0, .c (.int .u32 x)), (1, intsV ds)]) (O := []) (nx := 0) (nt := 22) (md := fun _ => false) hN rfl rfl rfl ⟨rfl, rfl, rfl, fun i hi => (rowOf_ints ds hi).symm⟩ trivial) ?_
  (repeat (first | refine XK.n ?_ | refine XK.a ?_ | refine XK.b ?_))
  refine XK.loop (ι := Nat) (fun i => ST.of [(0, .c (.int .u32 x)), (5, .c (.int .u32 (rotT x ds i))), (8, intsV ds), (9, .c (.int .i64 ds.length)), (10, .c (.int .i64 i))] [] 1000 22 (fun _ => false))
    (fun i => i ≤ ds.length) (fun i => ds.length - i) 0 (Nat.zero_le _) (Weak.of hN rfl rfl rfl frI frI) fun i hi => ?_
  (repeat (first | refine XK.n ?_ | refine XK.a ?_ | refine XK.b ?_)); refine XK.cond rfl (fun h1 => ?_) (fun h1 => ?_) <;> (try simp at h1)
  · have fx : ds.getD (i : Int).toNat default = ds.getD i default := rfl
    have hm1 : ds.getD i default ∈ ds := by
      rw [List.getD_eq_getElem?_getD, List.getElem?_eq_getElem h1]; exact List.getElem_mem h1
    have hr := hd _ hm1
    (repeat (first | refine XK.n ?_ | refine XK.a ?_ | refine XK.b ?_))
    rw [fx]
    (repeat (first | refine XK.n ?_ | refine XK.a ?_ | refine XK.b ?_)); refine XK.region ?_; refine XL.g ?_
    refine XL.callLA hE rfl rfl rfl rfl trivial rfl (rotate_ok x (0 - ds.getD i default)) rfl ?_
    refine XL.g ?_; refine XL.fin ?_; (repeat (first | refine XK.n ?_ | refine XK.a ?_ | refine XK.b ?_))
    exact XK.inv ⟨i + 1, h1, (Weak.of hN rfl rfl rfl frI frI), by omega⟩
  · have hie : i = ds.length := by omega
    subst hie
    (repeat (first | refine XK.n ?_ | refine XK.a ?_ | refine XK.b ?_))
    (first | refine XK.o ?_ | refine XK.p ?_)
    rfl
end
section
open Go.Eng Go.RowKit Go.Lib Go.Sort
def w8V (h : Nat → Int) : AV := .agg [.c (.int .u32 (h 0)), .c (.int .u32 (h 1)), .c (.int .u32 (h 2)), .c (.int .u32 (h 3)), .c (.int .u32 (h 4)), .c (.int .u32 (h 5)), .c (.int .u32 (h 6)), .c (.int .u32 (h 7))]
def rowW (w : Nat → Int) : Nat → List AV := fun j => [.c (.int .u32 (w j))]
def mdM : Nat → Bool := fun d => [37, 41, 46, 51, 78, 83, 90, 115, 124, 128, 130, 145, 148, 155, 170].any (Nat.beq d)
theorem row8 (h : Nat → Int) : ∀ j, j < 8 → rowW h j = rowOf [AV.c (.int .u32 (h 0)), .c (.int .u32 (h 1)), .c (.int .u32 (h 2)), .c (.int .u32 (h 3)), .c (.int .u32 (h 4)), .c (.int .u32 (h 5)), .c (.int .u32 (h 6)), .c (.int .u32 (h 7))] 1 j := fun j hj => by
  rcases j with _ | _ | _ | _ | _ | _ | _ | _ | j <;> first | rfl | (exfalso; omega)
theorem rowOf_rep (n : Nat) (v : Value) {j : Nat} (h : j < n) : rowOf ((List.replicate n v).map AV.c) 1 j = [AV.c v] := by
  unfold rowOf
  rw [Nat.mul_one, List.drop_eq_getElem_cons (by simpa using h)]
  simp
def by4 (b : ByteArray) (i : Nat) (k : Nat) : Int := IntKind.u32.wrap ((((b.extract (4 * (i : Int)).toNat (4 * (i : Int) + 4).toNat)[k]?).getD 0).toNat : Int)
def blkW (b : ByteArray) (i : Nat) : Int := bits .or .u32 (bits .or .u32 (bits .or .u32 (IntKind.u32.wrap (by4 b i (Int.toNat 0) * 2 ^ min (Int.toNat 24) IntKind.u32.bits)) (IntKind.u32.wrap (by4 b i (Int.toNat 1) * 2 ^ min (Int.toNat 16) IntKind.u32.bits))) (IntKind.u32.wrap (by4 b i (Int.toNat 2) * 2 ^ min (Int.toNat 8) IntKind.u32.bits))) (by4 b i (Int.toNat 3))
def setW (w : Nat → Int) (i : Nat) (v : Int) : Nat → Int := fun j => bif Nat.beq j i then v else w j
theorem rowW_set (w : Nat → Int) (i : Nat) (v : Int) (j : Nat) : rowW (setW w i v) j = setRowF (rowW w) i 0 [.c (.int .u32 v)] j := by
  unfold setRowF rowW setW
  by_cases h : j = i
  · subst h; rw [show Nat.beq j j = true by simp]; rfl
  · rw [beq_false h]; rfl
def wA (b : ByteArray) : Nat → Nat → Int
  | 0 => fun _ => 0
  | i + 1 => setW (wA b i) i (blkW b i)
def extW (w1 : Nat → Int) (n : Nat) : Int := IntKind.u32.wrap (IntKind.u32.wrap (IntKind.u32.wrap (w1 (((16 + n : Nat) : Int) - 16).toNat + bits .xor .u32 (rotT (w1 (((16 + n : Nat) : Int) - 15).toNat) [7, 18] [7, 18].length) ((w1 (((16 + n : Nat) : Int) - 15).toNat).fdiv (2 ^ min (Int.toNat 3) IntKind.u32.bits))) + w1 (((16 + n : Nat) : Int) - 7).toNat) + bits .xor .u32 (rotT (w1 (((16 + n : Nat) : Int) - 2).toNat) [17, 19] [17, 19].length) ((w1 (((16 + n : Nat) : Int) - 2).toNat).fdiv (2 ^ min (Int.toNat 10) IntKind.u32.bits)))
def wB (w0 : Nat → Int) : Nat → Nat → Int
  | 0 => w0
  | n + 1 => setW (wB w0 n) (16 + n) (extW (wB w0 n) n)
def w64V (w : Nat → Int) : AV := .agg ((List.range 64).map fun j => .c (.int .u32 (w j)))
def constK : List Int := [1116352408, 1899447441, 3049323471, 3921009573, 961987163, 1508970993, 2453635748, 2870763221, 3624381080, 310598401, 607225278, 1426881987, 1925078388, 2162078206, 2614888103, 3248222580, 3835390401, 4022224774, 264347078, 604807628, 770255983, 1249150122, 1555081692, 1996064986, 2554220882, 2821834349, 2952996808, 3210313671, 3336571891, 3584528711, 113926993, 338241895, 666307205, 773529912, 1294757372, 1396182291, 1695183700, 1986661051, 2177026350, 2456956037, 2730485921, 2820302411, 3259730800, 3345764771, 3516065817, 3600352804, 4094571909, 275423344, 430227734, 506948616, 659060556, 883997877, 958139571, 1322822218, 1537002063, 1747873779, 1955562222, 2024104815, 2227730452, 2361852424, 2428436474, 2756734187, 3204031479, 3329325298]
def pW (v : Nat → Int) (z w : Int) : Int := IntKind.u32.wrap (IntKind.u32.wrap (IntKind.u32.wrap (IntKind.u32.wrap (v (Int.toNat 7) + rotT (v 4) [6, 11, 25] [6, 11, 25].length) + bits .xor .u32 (bits .and .u32 (v (Int.toNat 4)) (v (Int.toNat 5))) (bits .and .u32 (bits .xor .u32 (if IntKind.u32.signed = true then -1 else IntKind.u32.max) (v (Int.toNat 4))) (v (Int.toNat 6)))) + z) + w)
def qW32 (v : Nat → Int) : Int := IntKind.u32.wrap (rotT (v 0) [2, 13, 22] [2, 13, 22].length + bits .xor .u32 (bits .xor .u32 (bits .and .u32 (v (Int.toNat 0)) (v (Int.toNat 1))) (bits .and .u32 (v (Int.toNat 0)) (v (Int.toNat 2)))) (bits .and .u32 (v (Int.toNat 1)) (v (Int.toNat 2))))
def rndW (v : Nat → Int) (z w : Int) : Nat → Int
  | 0 => IntKind.u32.wrap (pW v z w + qW32 v)
  | 1 => v (Int.toNat 0)
  | 2 => v (Int.toNat 1)
  | 3 => v (Int.toNat 2)
  | 4 => IntKind.u32.wrap (v (Int.toNat 3) + pW v z w)
  | 5 => v (Int.toNat 4)
  | 6 => v (Int.toNat 5)
  | _ => v (Int.toNat 6)
def vT (w : Nat → Int) (h : Nat → Int) : Nat → Nat → Int
  | 0 => h
  | i + 1 => rndW (vT w h i) (constK.getD (i : Int).toNat 0) (w i)
def sumT (v : Nat → Int) (h : Nat → Int) : Nat → Nat → Int
  | 0 => h
  | i + 1 => setW (sumT v h i) i (IntKind.u32.wrap (sumT v h i i + v i))
def mixF (h : Nat → Int) (b : ByteArray) : Nat → Int   := sumT (vT (wB (wA b 16) 48) h 64) h 8
theorem mixed_ok (h : Nat → Int) (b : ByteArray) (hb : b.size = 64) : Does Tryz.prog 84 [w8V h, .c (.string b)] (w8V (mixF h b)) := by
  refine Does.mk (mdM) TT_ok Tryz.func84 rfl (by kernel_rfl) Tryz.ntmps84 rfl rfl fun E hT hE hN hR => ?_
  have hm := mixO hE
  (repeat (first | refine XK.n ?_ | refine XK.a ?_ | refine XK.b ?_))
  refine XK.loop (ι := Nat) (fun i => ST.of [(1, .c (.string b)), (2, .vptr 2 0 1 0 0), (4, .vptr 4 0 1 0 0), (5, .vptr 179 0 1 0 0), (24, .c (.int .i64 i))] [(2, .vec 169 1 0 8 (rowW h)), (4, .vec 169 1 0 8 (rowW fun _ => 0)), (179, .vec 205 1 0 64 (rowW (wA b i)))] 1000 174 mdM)
    (fun i => i ≤ 16) (fun i => 16 - i) 0 (Nat.zero_le _) (Weak.of hN rfl rfl rfl frI ⟨⟨⟨rfl, rfl, rfl⟩, rfl, fun j hj => row8 h j hj⟩, ⟨⟨rfl, rfl, rfl⟩, rfl, fun j hj => (rowOf_rep 8 _ hj).symm⟩, ⟨rfl, rfl, rfl⟩, rfl, fun j hj => (rowOf_rep 64 _ hj).symm⟩) fun i hi => ?_
  (repeat (first | refine XK.n ?_ | refine XK.a ?_ | refine XK.b ?_)); refine XK.cond rfl (fun h1 => ?_) (fun h1 => ?_) <;> (try simp at h1)
  · (repeat (first | refine XK.n ?_ | refine XK.a ?_ | refine XK.b ?_))
    refine XK.inv ⟨i + 1, by omega, Weak.of hN rfl rfl rfl frV ⟨frI, frI, ⟨rfl, rfl, rfl⟩, rfl, fun j hj => rowW_set (wA b i) i (blkW b i) j⟩, by omega⟩
  have hie : i = 16 := by omega
  subst hie
  clear hi h1
  generalize hw0 : wA b 16 = w0
  refine XK.norm rfl rfl ?_
  refine XK.rgnA hT rfl rfl rfl ?_
  refine XK.norm rfl rfl ?_
  refine XK.loop (ι := Nat) (fun n => ST.of [(2, .vptr 2 0 1 0 0), (4, .vptr 4 0 1 0 0), (5, .vptr 179 0 1 0 0), (8, .c (.int .i64 (16 + n : Nat)))] [(2, .vec 169 1 0 8 (rowW h)), (4, .vec 169 1 0 8 (rowW fun _ => 0)), (179, .vec 205 1 0 64 (rowW (wB w0 n)))] 2000 174 mdM)
    (fun n => n ≤ 48) (fun n => 48 - n) 0 (Nat.zero_le _) (Weak.of hN rfl rfl rfl frI frI) fun n hn => ?_
  (repeat (first | refine XK.n ?_ | refine XK.a ?_ | refine XK.b ?_)); refine XK.cond rfl (fun h1 => ?_) (fun h1 => ?_) <;> (try simp at h1)
  · have hst : wB w0 (n + 1) = setW (wB w0 n) (16 + n) (extW (wB w0 n) n) := rfl
    (repeat (first | refine XK.n ?_ | refine XK.a ?_ | refine XK.b ?_))
    generalize wB w0 n = w1 at *
    (repeat (first | refine XK.n ?_ | refine XK.a ?_ | refine XK.b ?_)); refine XK.drawn hm ?_; refine XD.goA hT rfl rfl rfl rfl ?_
    refine XD.callLA hE rfl rfl rfl rfl trivial rfl (rotated_ok (w1 ((((16 + n : Nat) : Int) - 15).toNat)) [7, 18] (by simp) (by simp)) rfl ?_
    refine XD.goA hT rfl rfl rfl rfl ?_
    refine XD.callLA hE rfl rfl rfl rfl trivial rfl (rotated_ok (w1 ((((16 + n : Nat) : Int) - 2).toNat)) [17, 19] (by simp) (by simp)) rfl ?_
    refine XD.goA hT rfl rfl rfl rfl ?_; refine XD.fin (by kernel_rfl) ?_; (repeat (first | refine XK.n ?_ | refine XK.a ?_ | refine XK.b ?_))
    refine XK.inv ⟨n + 1, by omega, ?_, by omega⟩
    rw [hst]
    exact (Weak.of hN rfl rfl rfl frV ⟨frI, frI, ⟨rfl, rfl, rfl⟩, rfl, fun j hj => rowW_set w1 (16 + n) (extW w1 n) j⟩)
  have hne : n = 48 := by omega
  subst hne
  clear hn h1
  generalize hw : wB w0 48 = w2
  (repeat (first | refine XK.n ?_ | refine XK.a ?_ | refine XK.b ?_))
  refine XK.loop (ι := Nat) (fun i => ST.of [(2, .vptr 2 0 1 0 0), (4, .vptr 4 0 1 0 0), (11, .vptr 2185 0 1 0 0), (93, w64V w2), (94, .c (.int .i64 i))] [(2, .vec 169 1 0 8 (rowW h)), (4, .vec 169 1 0 8 (rowW fun _ => 0)), (2185, .vec 169 1 0 8 (rowW (vT w2 h i)))] 3000 174 mdM)
    (fun i => i ≤ 64) (fun i => 64 - i) 0 (Nat.zero_le _) (Weak.of hN rfl rfl rfl frI ⟨frI, frI, ⟨rfl, rfl, rfl⟩, rfl, fun j hj => row8 h j hj⟩) fun i hi => ?_
  (repeat (first | refine XK.n ?_ | refine XK.a ?_ | refine XK.b ?_)); refine XK.cond rfl (fun h1 => ?_) (fun h1 => ?_) <;> (try simp at h1)
  · have fw : ((List.range 64).map fun j => AV.c (.int .u32 (w2 j))).getD (i : Int).toNat .junk = .c (.int .u32 (w2 i)) := by
      have : i < 64 := by omega
      simp [List.getD_eq_getElem?_getD, this]
    refine XK.norm rfl rfl ?_
    refine XK.region ?_
    refine XL.opE hT rfl List.mem_cons_self rfl rfl trivial rfl rfl ?_
    refine XL.indexA hT rfl rfl rfl rfl rfl rfl rfl rfl rfl rfl rfl (by omega) (by simp) ?_
    rw [fw]
    refine XL.g ?_
    refine XL.fin ?_
    have hst : vT w2 h (i + 1) = rndW (vT w2 h i) (constK.getD (i : Int).toNat 0) (w2 i) := rfl
    generalize vT w2 h i = v at *
    (repeat (first | refine XK.n ?_ | refine XK.a ?_ | refine XK.b ?_))
    (repeat (first | refine XK.n ?_ | refine XK.a ?_ | refine XK.b ?_)); refine XK.drawn hm ?_; refine XD.goA hT rfl rfl rfl rfl ?_
    refine XD.callLA hE rfl rfl rfl rfl trivial rfl (rotated_ok (v 4) [6, 11, 25] (by simp) (by simp)) rfl ?_
    refine XD.goA hT rfl rfl rfl rfl ?_; refine XD.fin (by kernel_rfl) ?_; (repeat (first | refine XK.n ?_ | refine XK.a ?_ | refine XK.b ?_))
    (repeat (first | refine XK.n ?_ | refine XK.a ?_ | refine XK.b ?_)); refine XK.region ?_; refine XL.g ?_
    refine XL.callLA hE rfl rfl rfl rfl trivial rfl (rotated_ok (v 0) [2, 13, 22] (by simp) (by simp)) rfl ?_
    refine XL.g ?_; refine XL.fin ?_; (repeat (first | refine XK.n ?_ | refine XK.a ?_ | refine XK.b ?_))
    refine XK.inv ⟨i + 1, by omega, ?_, by omega⟩
    rw [hst]
    exact Weak.of hN rfl rfl rfl frV ⟨frI, frI, ⟨rfl, rfl, rfl⟩, rfl, fun j hj => row8 (rndW v (constK.getD (i : Int).toNat 0) (w2 i)) j hj⟩
  have hie : i = 64 := by omega
  subst hie
  clear hi h1
  generalize hv : vT w2 h 64 = v
  (repeat (first | refine XK.n ?_ | refine XK.a ?_ | refine XK.b ?_))
  refine XK.loop (ι := Nat) (fun i => ST.of [(2, .vptr 2 0 1 0 0), (4, .vptr 4 0 1 0 0), (161, w8V v), (162, .c (.int .i64 i))] [(2, .vec 169 1 0 8 (rowW (sumT v h i))), (4, .vec 169 1 0 8 (rowW fun _ => 0))] 4000 174 mdM)
    (fun i => i ≤ 8) (fun i => 8 - i) 0 (Nat.zero_le _) (Weak.of hN rfl rfl rfl frI frI) fun i hi => ?_
  (repeat (first | refine XK.n ?_ | refine XK.a ?_ | refine XK.b ?_)); refine XK.cond rfl (fun h1 => ?_) (fun h1 => ?_) <;> (try simp at h1)
  · have fw : [AV.c (.int .u32 (v 0)), .c (.int .u32 (v 1)), .c (.int .u32 (v 2)), .c (.int .u32 (v 3)), .c (.int .u32 (v 4)), .c (.int .u32 (v 5)), .c (.int .u32 (v 6)), .c (.int .u32 (v 7))].getD (i : Int).toNat .junk = .c (.int .u32 (v i)) := by
      have : i < 8 := by omega
      rcases i with _ | _ | _ | _ | _ | _ | _ | _ | i <;> first | rfl | (exfalso; omega)
    have hst : sumT v h (i + 1) = setW (sumT v h i) i (IntKind.u32.wrap (sumT v h i i + v i)) := rfl
    refine XK.norm rfl rfl ?_
    refine XK.region ?_
    refine XL.opE hT rfl List.mem_cons_self rfl rfl trivial rfl rfl ?_
    refine XL.indexA hT rfl rfl rfl rfl rfl rfl rfl rfl rfl rfl rfl (by omega) (by simp) ?_
    rw [fw]
    refine XL.g ?_
    refine XL.fin ?_
    generalize sumT v h i = g at *
    (repeat (first | refine XK.n ?_ | refine XK.a ?_ | refine XK.b ?_))
    refine XK.inv ⟨i + 1, by omega, ?_, by omega⟩
    rw [hst]
    exact Weak.of hN rfl rfl rfl frV ⟨⟨⟨rfl, rfl, rfl⟩, rfl, fun j hj => rowW_set g i _ j⟩, frI⟩
  have hie : i = 8 := by omega
  subst hie
  have hmf : mixF h b = sumT v h 8 := by rw [← hv, ← hw, ← hw0]; rfl
  rw [hmf]
  generalize sumT v h 8 = g
  (repeat (first | refine XK.n ?_ | refine XK.a ?_ | refine XK.b ?_))
  (first | refine XK.o ?_ | refine XK.p ?_)
  rfl
end
section
open Go.Eng
structure Lt where
  kind : Int
  party : Int
  number : Int
  sent : Int
  day : Int
  patch : Pt
  sum : ByteArray
instance : Inhabited Lt := ⟨⟨0, 0, 0, 0, 0, default, ⟨#[]⟩⟩⟩
def ltC (x : Lt) : List AV := [.c (.int .i64 x.kind), .c (.int .i64 x.party), .c (.int .i64 x.number), .c (.int .i64 x.sent), .c (.int .i64 x.day), .c (.int .i64 x.patch.kind), intsV x.patch.clauses, .c (.int .i64 x.patch.new.kind), .c (.int .i64 x.patch.new.role), .c (.int .i64 x.patch.new.act), .c (.int .i64 x.patch.new.need), cndsV x.patch.new.start, .c (.int .i64 x.patch.new.after), .c (.int .i64 x.patch.new.grace), .c (.bool x.patch.new.business), .c (.bool x.patch.new.final), .c (.int .i64 x.patch.new.pause), .c (.int .i64 x.patch.new.resume), .c (.int .i64 x.patch.new.value.1), .c (.int .i64 x.patch.new.value.2), .c (.int .i64 x.patch.new.unit), .c (.int .i64 x.patch.new.to), .c (.bool x.patch.new.waived), .c (.int .i64 x.patch.days), .c (.string x.sum)]
def ltV (x : Lt) : AV := .agg [.c (.int .i64 x.kind), .c (.int .i64 x.party), .c (.int .i64 x.number), .c (.int .i64 x.sent), .c (.int .i64 x.day), .c (.int .i64 x.patch.kind), intsV x.patch.clauses, .c (.int .i64 x.patch.new.kind), .c (.int .i64 x.patch.new.role), .c (.int .i64 x.patch.new.act), .c (.int .i64 x.patch.new.need), cndsV x.patch.new.start, .c (.int .i64 x.patch.new.after), .c (.int .i64 x.patch.new.grace), .c (.bool x.patch.new.business), .c (.bool x.patch.new.final), .c (.int .i64 x.patch.new.pause), .c (.int .i64 x.patch.new.resume), .c (.int .i64 x.patch.new.value.1), .c (.int .i64 x.patch.new.value.2), .c (.int .i64 x.patch.new.unit), .c (.int .i64 x.patch.new.to), .c (.bool x.patch.new.waived), .c (.int .i64 x.patch.days), .c (.string x.sum)]
def ltsV (l : List Lt) : AV := rowL ltC 25 l
def ltW (x : Lt) : Prop := inK .i64 x.kind ∧ inK .i64 x.party ∧ inK .i64 x.number ∧ inK .i64 x.sent ∧ inK .i64 x.day ∧ ptW x.patch
noncomputable def cLt : Codec Tryz.prog 60 Lt := (Codec.struct ty60_k rfl (.cons cInt (.cons cInt (.cons cInt (.cons cInt (.cons cInt (.cons cPt (.cons cStr (.nil _ _)))))))) (by kernel_rfl)).map (fun x => ⟨x.1, x.2.1, x.2.2.1, x.2.2.2.1, x.2.2.2.2.1, x.2.2.2.2.2.1, x.2.2.2.2.2.2.1⟩) ltC ltW (fun _ => rfl) (fun _ => rfl) (fun _ h => ⟨h.1, h.2.1, h.2.2.1, h.2.2.2.1, h.2.2.2.2.1, h.2.2.2.2.2.1⟩)
noncomputable def cLts : Codec Tryz.prog 28 (List Lt) := Codec.slice cLt ty28_k (by decide) (by kernel_rfl)
def blankB (p : Pt) : Bool := p.kind == 0 && (p.clauses.length : Int) == 0 && p.days == 0 && p.new.kind == 0 && p.new.role == 0 && p.new.act == 0 && p.new.need == 0 && (p.new.start.length : Int) == 0 && p.new.after == 0 && p.new.grace == 0 && !p.new.business && !p.new.final && p.new.pause == 0 && p.new.resume == 0 && (p.new.value.1 == 0 && p.new.value.2 == 0) && p.new.unit == 0 && p.new.to == 0 && !p.new.waived
theorem blank_ok (p : Pt) : Does Tryz.prog 126 [ptV p] (.c (.bool (blankB p))) := by
  refine Does.mk (fun _ => false) TT_ok Tryz.func126 rfl (by kernel_rfl) Tryz.ntmps126 rfl rfl fun E hT hE hN hR => ?_
  have hm := mixO hE
  (repeat (first | refine XK.n ?_ | refine XK.a ?_ | refine XK.b ?_))
  (first | refine XK.o ?_ | refine XK.p ?_)
  simp [blankB]
  done
end
section
open Go.Eng
theorem ofKind_ok (k p : Int) : Does Tryz.prog 45 [.c (.int .i64 k), .c (.int .i64 p)] (.fn (.func 81) [] [.rptr [.c (.int .i64 k)], .rptr [.c (.int .i64 p)]]) := by
  refine Does.mk (fun _ => false) TT_ok Tryz.func45 rfl (by kernel_rfl) Tryz.ntmps45 rfl rfl fun E hT hE hN hR => ?_
  have hm := mixO hE
  (first | refine XK.n ?_ | refine XK.a ?_ | refine XK.b ?_)
  (first | refine XK.n ?_ | refine XK.a ?_ | refine XK.b ?_)
  refine XK.weak (Weak.trans (Weak.frozenC (k := 2) hN rfl rfl rfl) (Weak.frozenC (k := 3) hN rfl rfl rfl)) ?_
  (repeat (first | refine XK.n ?_ | refine XK.a ?_ | refine XK.b ?_))
  (first | refine XK.o ?_ | refine XK.p ?_)
  rfl
theorem kind1_of (k p : Int) (x : Lt) (b : Bool) (hw : Does Tryz.prog 82 [ltV x] (.c (.bool b))) : Does Tryz.prog 81 [ltV x, .rptr [.c (.int .i64 k)], .rptr [.c (.int .i64 p)]] (.c (.bool (x.kind == k && decide (x.party < p) && b))) := by
  refine Does.mk (fun _ => false) TT_ok Tryz.func81 rfl (by kernel_rfl) Tryz.ntmps81 rfl rfl fun E hT hE hN hR => ?_
  have hm := mixO hE
  (repeat (first | refine XK.n ?_ | refine XK.a ?_ | refine XK.b ?_)); refine XK.region ?_; refine XL.g ?_
  refine XL.callLG hE rfl rfl rfl rfl rfl rfl rfl (by first | (simp [AllP, impG]; done) | (simp only [AllP, impG]; grind)) rfl (fun hgd => ⟨hw, (by (repeat' (first | exact rfl | exact AvIs.refl _ | exact trivial | (intro i hi; rfl) | exact fun _ _ => ⟨rfl, AvIs.refl _⟩ | (intro i hi; rcases i with _ | _ | _ | _ | _ | _ | _ | i <;> first | rfl | exact absurd hi (by simp; done) | (simp at hi; omega)) | refine ⟨?_, ?_⟩)))⟩) rfl ?_
  refine XL.g ?_; refine XL.fin ?_; (repeat (first | refine XK.n ?_ | refine XK.a ?_ | refine XK.b ?_))
  (first | refine XK.o ?_ | refine XK.p ?_)
  simp
end
section
open Go.Eng Go.RowKit Go.Lib Go.Sort
theorem small_ok (i : Nat) (h : i < 100) : Does Tryz.prog 159 [.c (.int .i64 i)] (.c (.string ⟨(Lib.decDigits i).toArray⟩)) :=
  Does.of_gl (args := [.int .i64 i]) ⟨_, Tryz.func159, rfl, by kernel_rfl⟩ fun w G hgl => (Tryz.internal_strconv_small i h w).mono fun e w' ⟨h, hw⟩ => ⟨h, hw ▸ Keep.refl _ _⟩
theorem numDigits_ok (u : Nat) (h1 : 1 ≤ u) (h2 : u < 18446744073709551616) : Does Tryz.prog 160 [.c (.int .u64 u)] (.c (.int .i64 (Lib.nDigits u))) :=
  Does.of_gl (args := [.int .u64 u]) ⟨_, Tryz.func160, rfl, by kernel_rfl⟩ fun w G hgl => (Tryz.internal_strconv_numDigits u h1 h2 w (tabIs hgl)).mono fun e w' ⟨h, hw⟩ => ⟨h, hw ▸ Keep.refl _ _⟩
def byC (b : UInt8) : List AV := [.c (.int .u8 b.toNat)]
def digF (u : Nat) : Nat → List AV := fun i => byC ((Lib.decDigits u).getD i 0)
theorem byteTy : ByteTy TT 172 5 := ⟨⟨_, rfl, rfl⟩, ⟨_, rfl, rfl, rfl, rfl, rfl⟩⟩
theorem appendUint1_ok (u : Nat) (hu : u < 100) (n : Nat) (hn : n ≤ 1000000) (f : Nat → List AV) :
    DoesM Tryz.prog 170 [.vec 0 0, .c (.int .u64 u), .c (.int .i64 10)] [.vec 5 1 0 n f] (.vec 0 1) [.vec 5 1 1 (n + (Lib.decDigits u).length) (catF n f (digF u))] := by
  have hl : (Lib.decDigits u).length ≤ 20 := by
    rw [decDigits_length]
    exact Lib.nDigits_le20 u (by omega)
  refine DoesM.mk (fun _ => false) 100 TT_ok Tryz.func170 rfl (by kernel_rfl) Tryz.ntmps170 rfl rfl rfl fun E hT hE hN hR => ?_
  have hm := mixO hE
  (repeat (first | refine XK.n ?_ | refine XK.a ?_ | refine XK.b ?_))
  (repeat (first | refine XK.n ?_ | refine XK.a ?_ | refine XK.b ?_)); refine XK.cond rfl (fun h1 => ?_) (fun h1 => ?_) <;> (try simp at h1)
  (repeat (first | refine XK.n ?_ | refine XK.a ?_ | refine XK.b ?_)); refine XK.cond rfl (fun h2 => ?_) (fun h2 => ?_) <;> (try simp at h2)
  · (repeat (first | refine XK.n ?_ | refine XK.a ?_ | refine XK.b ?_)); refine XK.region ?_; refine XL.g ?_
    refine XL.callLA hE rfl rfl rfl rfl trivial rfl (small_ok u hu) rfl ?_
    refine XL.appendStr hT rfl rfl rfl rfl byteTy rfl rfl rfl rfl rfl ?_ ?_
    · show n + (Lib.decDigits u).toArray.size ≤ _
      simp; omega
    refine XL.g ?_; refine XL.fin ?_; (repeat (first | refine XK.n ?_ | refine XK.a ?_ | refine XK.b ?_))
    (first | refine XK.outR [0] hN rfl rfl rfl ?_ rfl rfl ?_ | refine XK.outRN [0] hN rfl rfl rfl ?_ rfl rfl ?_)
    · exact frI
    · exact frI
  · exact absurd h2 (by simp; omega)
theorem appendUint2_ok (u : Nat) (hu : 100 ≤ u) (hu2 : u < 18446744073709551616) (n : Nat) (hn : n ≤ 1000000) (f : Nat → List AV) :
    DoesM Tryz.prog 170 [.vec 0 0, .c (.int .u64 u), .c (.int .i64 10)] [.vec 5 1 0 n f] (.vec 0 1) [.vec 5 1 1 (n + (Lib.decDigits u).length) (catF n f (digF u))] := by
  have hl : Lib.nDigits u ≤ 20 := Lib.nDigits_le20 u hu2
  have hd : (Lib.decDigits u).length = Lib.nDigits u := decDigits_length u
  have catE : ∀ g : Nat → List AV, ∀ i, i < n + Lib.nDigits u → catF n f (digF u) i = catF n f (fun i => if i < Lib.nDigits u then [AV.c (.int .u8 ((Lib.decDigits u).getD i 0).toNat)] else g i) i := fun g i hi => by
    unfold catF
    cases hb : Nat.blt i n with
    | true => rfl
    | false =>
      have hin : ¬ i < n := fun hh => by rw [show Nat.blt i n = true from Nat.ble_eq_true_of_le hh] at hb; cases hb
      rw [cond_false, cond_false]; dsimp only; rw [if_pos (by omega)]; rfl
  rw [hd]
  refine DoesM.mk (fun _ => false) 100 TT_ok Tryz.func170 rfl (by kernel_rfl) Tryz.ntmps170 rfl rfl rfl fun E hT hE hN hR => ?_
  have hm := mixO hE
  (repeat (first | refine XK.n ?_ | refine XK.a ?_ | refine XK.b ?_))
  (repeat (first | refine XK.n ?_ | refine XK.a ?_ | refine XK.b ?_)); refine XK.cond rfl (fun h1 => ?_) (fun h1 => ?_) <;> (try simp at h1)
  (repeat (first | refine XK.n ?_ | refine XK.a ?_ | refine XK.b ?_)); refine XK.cond rfl (fun h2 => ?_) (fun h2 => ?_) <;> (try simp at h2)
  · exact absurd h2 (by omega)
  (repeat (first | refine XK.n ?_ | refine XK.a ?_ | refine XK.b ?_))
  (repeat (first | refine XK.n ?_ | refine XK.a ?_ | refine XK.b ?_)); refine XK.region ?_; refine XL.g ?_
  refine XL.callLA hE rfl rfl rfl rfl trivial rfl (numDigits_ok u (by omega) hu2) rfl ?_
  refine XL.g ?_; refine XL.fin ?_; (repeat (first | refine XK.n ?_ | refine XK.a ?_ | refine XK.b ?_))
  refine XK.region ?_
  refine XL.fmt10 (b := fun _ => 0) (n := Lib.nDigits u) (u := u) hT rfl rfl rfl rfl rfl rfl rfl rfl rfl rfl rfl rfl rfl (fun d hd => ?_) rfl rfl rfl rfl rfl rfl rfl rfl (fun i hi => ?_) (by omega) rfl (Lib.lt_pow_nDigits u) (by rw [hE]; exact ⟨_, Tryz.func161, rfl, by kernel_rfl⟩) (fun blk cap d w hH hsz => ?_) ?_
  · injection hd with hd; subst hd; exact ⟨by decide, by decide⟩
  · (iterate 24 (rcases i with _ | i; · rfl))
    omega
  · rw [hE, ← hsz]
    exact Tryz.internal_strconv_formatBase10 blk 0 cap u d w hH (by rw [hsz]; exact Lib.lt_pow_nDigits u) hu2 (by omega)
  refine XL.fin ?_
  (repeat (first | refine XK.n ?_ | refine XK.a ?_ | refine XK.b ?_)); refine XK.region ?_; refine XL.g ?_
  refine XL.sliceOwn (k := 215) hT rfl rfl rfl rfl rfl rfl rfl rfl rfl rfl rfl hN rfl (by omega) (by decide) ?_
  refine XL.goA hT rfl rfl rfl rfl (ho := ⟨by omega, by show (n + Lib.nDigits u) * 1 ≤ _; omega, fun i hi => by dsimp only; rw [if_pos hi]; rfl⟩) ?_
  refine XL.fin ?_
  (first | refine XK.outR [0] hN rfl rfl rfl ?_ rfl rfl ?_ | refine XK.outRN [0] hN rfl rfl rfl ?_ rfl rfl ?_)
  · (repeat' (first | exact rfl | exact AvIs.refl _ | exact trivial | exact fun _ _ => rfl | exact fun _ _ => ⟨rfl, AvIs.refl _⟩ | exact cI (by omega) | exact (catE _) | refine ⟨?_, ?_⟩))
  · exact frI
theorem appendUint_ok (u : Nat) (hu2 : u < 18446744073709551616) (n : Nat) (hn : n ≤ 1000000) (f : Nat → List AV) :
    DoesM Tryz.prog 170 [.vec 0 0, .c (.int .u64 u), .c (.int .i64 10)] [.vec 5 1 0 n f] (.vec 0 1) [.vec 5 1 1 (n + (Lib.decDigits u).length) (catF n f (digF u))] := by
  by_cases h : u < 100
  · exact appendUint1_ok u h n hn f
  · exact appendUint2_ok u (by omega) hu2 n hn f
theorem appendUint1b_ok (u : Nat) (hu : u < 100) (n : Nat) (hn : n ≤ 1000000) (f : Nat → List AV) :
    DoesM Tryz.prog 170 [.vec 0 1, .c (.int .u64 u), .c (.int .i64 10)] [.vec 5 1 1 n f] (.vec 0 2) [.vec 5 1 2 (n + (Lib.decDigits u).length) (catF n f (digF u))] := by
  have hl : (Lib.decDigits u).length ≤ 20 := by
    rw [decDigits_length]
    exact Lib.nDigits_le20 u (by omega)
  refine DoesM.mk (fun _ => false) 100 TT_ok Tryz.func170 rfl (by kernel_rfl) Tryz.ntmps170 rfl rfl rfl fun E hT hE hN hR => ?_
  have hm := mixO hE
  (repeat (first | refine XK.n ?_ | refine XK.a ?_ | refine XK.b ?_))
  (repeat (first | refine XK.n ?_ | refine XK.a ?_ | refine XK.b ?_)); refine XK.cond rfl (fun h1 => ?_) (fun h1 => ?_) <;> (try simp at h1)
  (repeat (first | refine XK.n ?_ | refine XK.a ?_ | refine XK.b ?_)); refine XK.cond rfl (fun h2 => ?_) (fun h2 => ?_) <;> (try simp at h2)
  · (repeat (first | refine XK.n ?_ | refine XK.a ?_ | refine XK.b ?_)); refine XK.region ?_; refine XL.g ?_
    refine XL.callLA hE rfl rfl rfl rfl trivial rfl (small_ok u hu) rfl ?_
    refine XL.appendStr hT rfl rfl rfl rfl byteTy rfl rfl rfl rfl rfl ?_ ?_
    · show n + (Lib.decDigits u).toArray.size ≤ _
      simp; omega
    refine XL.g ?_; refine XL.fin ?_; (repeat (first | refine XK.n ?_ | refine XK.a ?_ | refine XK.b ?_))
    (first | refine XK.outR [0] hN rfl rfl rfl ?_ rfl rfl ?_ | refine XK.outRN [0] hN rfl rfl rfl ?_ rfl rfl ?_)
    · exact frI
    · exact frI
  · exact absurd h2 (by simp; omega)
theorem appendUint2b_ok (u : Nat) (hu : 100 ≤ u) (hu2 : u < 18446744073709551616) (n : Nat) (hn : n ≤ 1000000) (f : Nat → List AV) :
    DoesM Tryz.prog 170 [.vec 0 1, .c (.int .u64 u), .c (.int .i64 10)] [.vec 5 1 1 n f] (.vec 0 2) [.vec 5 1 2 (n + (Lib.decDigits u).length) (catF n f (digF u))] := by
  have hl : Lib.nDigits u ≤ 20 := Lib.nDigits_le20 u hu2
  have hd : (Lib.decDigits u).length = Lib.nDigits u := decDigits_length u
  have catE : ∀ g : Nat → List AV, ∀ i, i < n + Lib.nDigits u → catF n f (digF u) i = catF n f (fun i => if i < Lib.nDigits u then [AV.c (.int .u8 ((Lib.decDigits u).getD i 0).toNat)] else g i) i := fun g i hi => by
    unfold catF
    cases hb : Nat.blt i n with
    | true => rfl
    | false =>
      have hin : ¬ i < n := fun hh => by rw [show Nat.blt i n = true from Nat.ble_eq_true_of_le hh] at hb; cases hb
      rw [cond_false, cond_false]; dsimp only; rw [if_pos (by omega)]; rfl
  rw [hd]
  refine DoesM.mk (fun _ => false) 100 TT_ok Tryz.func170 rfl (by kernel_rfl) Tryz.ntmps170 rfl rfl rfl fun E hT hE hN hR => ?_
  have hm := mixO hE
  (repeat (first | refine XK.n ?_ | refine XK.a ?_ | refine XK.b ?_))
  (repeat (first | refine XK.n ?_ | refine XK.a ?_ | refine XK.b ?_)); refine XK.cond rfl (fun h1 => ?_) (fun h1 => ?_) <;> (try simp at h1)
  (repeat (first | refine XK.n ?_ | refine XK.a ?_ | refine XK.b ?_)); refine XK.cond rfl (fun h2 => ?_) (fun h2 => ?_) <;> (try simp at h2)
  · exact absurd h2 (by omega)
  (repeat (first | refine XK.n ?_ | refine XK.a ?_ | refine XK.b ?_))
  (repeat (first | refine XK.n ?_ | refine XK.a ?_ | refine XK.b ?_)); refine XK.region ?_; refine XL.g ?_
  refine XL.callLA hE rfl rfl rfl rfl trivial rfl (numDigits_ok u (by omega) hu2) rfl ?_
  refine XL.g ?_; refine XL.fin ?_; (repeat (first | refine XK.n ?_ | refine XK.a ?_ | refine XK.b ?_))
  refine XK.region ?_
  refine XL.fmt10 (b := fun _ => 0) (n := Lib.nDigits u) (u := u) hT rfl rfl rfl rfl rfl rfl rfl rfl rfl rfl rfl rfl rfl (fun d hd => ?_) rfl rfl rfl rfl rfl rfl rfl rfl (fun i hi => ?_) (by omega) rfl (Lib.lt_pow_nDigits u) (by rw [hE]; exact ⟨_, Tryz.func161, rfl, by kernel_rfl⟩) (fun blk cap d w hH hsz => ?_) ?_
  · injection hd with hd; subst hd; exact ⟨by decide, by decide⟩
  · (iterate 24 (rcases i with _ | i; · rfl))
    omega
  · rw [hE, ← hsz]
    exact Tryz.internal_strconv_formatBase10 blk 0 cap u d w hH (by rw [hsz]; exact Lib.lt_pow_nDigits u) hu2 (by omega)
  refine XL.fin ?_
  (repeat (first | refine XK.n ?_ | refine XK.a ?_ | refine XK.b ?_)); refine XK.region ?_; refine XL.g ?_
  refine XL.sliceOwn (k := 215) hT rfl rfl rfl rfl rfl rfl rfl rfl rfl rfl rfl hN rfl (by omega) (by decide) ?_
  refine XL.goA hT rfl rfl rfl rfl (ho := ⟨by omega, by show (n + Lib.nDigits u) * 1 ≤ _; omega, fun i hi => by dsimp only; rw [if_pos hi]; rfl⟩) ?_
  refine XL.fin ?_
  (first | refine XK.outR [0] hN rfl rfl rfl ?_ rfl rfl ?_ | refine XK.outRN [0] hN rfl rfl rfl ?_ rfl rfl ?_)
  · (repeat' (first | exact rfl | exact AvIs.refl _ | exact trivial | exact fun _ _ => rfl | exact fun _ _ => ⟨rfl, AvIs.refl _⟩ | exact cI (by omega) | exact (catE _) | refine ⟨?_, ?_⟩))
  · exact frI
theorem appendUintB_ok (u : Nat) (hu2 : u < 18446744073709551616) (n : Nat) (hn : n ≤ 1000000) (f : Nat → List AV) :
    DoesM Tryz.prog 170 [.vec 0 1, .c (.int .u64 u), .c (.int .i64 10)] [.vec 5 1 1 n f] (.vec 0 2) [.vec 5 1 2 (n + (Lib.decDigits u).length) (catF n f (digF u))] := by
  by_cases h : u < 100
  · exact appendUint1b_ok u h n hn f
  · exact appendUint2b_ok u (by omega) hu2 n hn f
theorem blt_no {a b : Nat} (h : b ≤ a) : Nat.blt a b = false := by
  cases hb : Nat.blt a b with
  | false => rfl
  | true => exact absurd (Nat.le_of_ble_eq_true hb) (by omega)
theorem blt_yes {a b : Nat} (h : a < b) : Nat.blt a b = true := Nat.ble_eq_true_of_le h
def itoaF (z : Int) : Nat → List AV := fun i => byC ((Lib.itoa z).getD i 0)
theorem appendIntN_ok (u : Nat) (h1 : 1 ≤ u) (h0 : u ≤ 9223372036854775808) (n : Nat) (hn : n ≤ 999999) (f : Nat → List AV) :
    DoesM Tryz.prog 130 [.vec 0 0, .c (.int .i64 (-(u : Int))), .c (.int .i64 10)] [.vec 5 1 0 n f] (.vec 0 2) [.vec 5 1 2 (n + (Lib.itoa (-(u : Int))).length) (catF n f (itoaF (-(u : Int))))] := by
  have hwr : IntKind.u64.wrap (0 - IntKind.u64.wrap (-(u : Int))) = (u : Int) := by rw [IntKind.wrap_u64, IntKind.wrap_u64]; omega
  have hc := appendUintB_ok u (by omega) (n + 1) (by omega) (catF n f (rowOf [AV.c (.int .u8 45)] 1))
  have hit := Lib.itoa_neg u (by omega)
  have hlen : n + (Lib.itoa (-(u : Int))).length = n + 1 + (Lib.decDigits u).length := by rw [hit, List.length_cons]; omega
  have catE : ∀ i, i < n + 1 + (Lib.decDigits u).length → catF n f (itoaF (-(u : Int))) i = catF (n + 1) (catF n f (rowOf [AV.c (.int .u8 45)] 1)) (digF u) i := fun i hi => by
    unfold catF itoaF digF
    rw [hit]
    rcases Nat.lt_trichotomy i n with h | h | h
    · rw [blt_yes h, blt_yes (show i < n + 1 by omega)]; rfl
    · subst h
      rw [blt_no (Nat.le_refl i), blt_yes (Nat.lt_succ_self i), Nat.sub_self]; rfl
    · rw [blt_no (show n ≤ i by omega), blt_no (show n + 1 ≤ i by omega)]
      obtain ⟨k, rfl⟩ : ∃ k, i = n + 1 + k := ⟨i - (n + 1), by omega⟩
      rw [show n + 1 + k - n = k + 1 by omega, show n + 1 + k - (n + 1) = k by omega]; rfl
  rw [hlen]
  refine DoesM.mk (fun d => Nat.beq d 9 || Nat.beq d 16) 100 TT_ok Tryz.func130 rfl (by kernel_rfl) Tryz.ntmps130 rfl rfl rfl fun E hT hE hN hR => ?_
  have hm := mixO hE
  (repeat (first | refine XK.n ?_ | refine XK.a ?_ | refine XK.b ?_))
  (repeat (first | refine XK.n ?_ | refine XK.a ?_ | refine XK.b ?_)); refine XK.cond rfl (fun h2 => ?_) (fun h2 => ?_) <;> (try simp at h2)
  · (repeat (first | refine XK.n ?_ | refine XK.a ?_ | refine XK.b ?_))
    rw [hwr]
    (repeat (first | refine XK.n ?_ | refine XK.a ?_ | refine XK.b ?_)); refine XK.region ?_; refine XL.g ?_
    refine XL.callMA [0] hE rfl rfl rfl rfl trivial (hc) rfl rfl rfl rfl rfl ?_
    refine XL.g ?_; refine XL.fin ?_; (repeat (first | refine XK.n ?_ | refine XK.a ?_ | refine XK.b ?_))
    (first | refine XK.outR [0] hN rfl rfl rfl ?_ rfl rfl ?_ | refine XK.outRN [0] hN rfl rfl rfl ?_ rfl rfl ?_)
    · (repeat' (first | exact rfl | exact AvIs.refl _ | exact trivial | exact fun _ _ => rfl | exact fun _ _ => ⟨rfl, AvIs.refl _⟩ | exact cI (by omega) | exact (catE) | refine ⟨?_, ?_⟩))
    · exact frI
  · omega
theorem appendIntP_ok (u : Nat) (h0 : u ≤ 9223372036854775807) (n : Nat) (hn : n ≤ 999999) (f : Nat → List AV) :
    DoesM Tryz.prog 130 [.vec 0 0, .c (.int .i64 u), .c (.int .i64 10)] [.vec 5 1 0 n f] (.vec 0 2) [.vec 5 1 2 (n + (Lib.itoa u).length) (catF n f (itoaF u))] := by
  have hwr : IntKind.u64.wrap (u : Int) = (u : Int) := by rw [IntKind.wrap_u64]; omega
  have hc := appendUint_ok u (by omega) n (by omega) f
  have hit := Lib.itoa_nonneg u
  have he : itoaF u = digF u := by funext i; unfold itoaF digF; rw [hit]
  rw [hit, he]
  refine DoesM.mk (fun d => Nat.beq d 9 || Nat.beq d 16) 100 TT_ok Tryz.func130 rfl (by kernel_rfl) Tryz.ntmps130 rfl rfl rfl fun E hT hE hN hR => ?_
  have hm := mixO hE
  (repeat (first | refine XK.n ?_ | refine XK.a ?_ | refine XK.b ?_))
  (repeat (first | refine XK.n ?_ | refine XK.a ?_ | refine XK.b ?_)); refine XK.cond rfl (fun h2 => ?_) (fun h2 => ?_) <;> (try simp at h2)
  · omega
  · (repeat (first | refine XK.n ?_ | refine XK.a ?_ | refine XK.b ?_))
    rw [hwr]
    (repeat (first | refine XK.n ?_ | refine XK.a ?_ | refine XK.b ?_)); refine XK.region ?_; refine XL.g ?_
    refine XL.callMA [0] hE rfl rfl rfl rfl trivial (hc) rfl rfl rfl rfl rfl ?_
    refine XL.g ?_; refine XL.fin ?_; (repeat (first | refine XK.n ?_ | refine XK.a ?_ | refine XK.b ?_))
    refine XK.weak (Weak.stamp (k := 0) (t := 2) hN rfl rfl) ?_
    (first | refine XK.outR [0] hN rfl rfl rfl ?_ rfl rfl ?_ | refine XK.outRN [0] hN rfl rfl rfl ?_ rfl rfl ?_)
    · exact frI
    · exact frI
theorem appendIntI_ok (z : Int) (h0 : -9223372036854775808 ≤ z) (h1 : z ≤ 9223372036854775807) (n : Nat) (hn : n ≤ 999999) (f : Nat → List AV) :
    DoesM Tryz.prog 130 [.vec 0 0, .c (.int .i64 z), .c (.int .i64 10)] [.vec 5 1 0 n f] (.vec 0 2) [.vec 5 1 2 (n + (Lib.itoa z).length) (catF n f (itoaF z))] := by
  by_cases hz : z < 0
  · obtain ⟨u, rfl⟩ : ∃ u : Nat, z = -(u : Int) := ⟨z.natAbs, by omega⟩
    exact appendIntN_ok u (by omega) (by omega) n hn f
  · obtain ⟨u, rfl⟩ : ∃ u : Nat, z = (u : Int) := ⟨z.natAbs, by omega⟩
    exact appendIntP_ok u (by omega) n hn f
theorem appendInt_ok (z : Int) (h0 : -9223372036854775808 ≤ z) (h1 : z ≤ 9223372036854775807) (n : Nat) (hn : n ≤ 999999) (f : Nat → List AV) :
    DoesM Tryz.prog 87 [.vec 0 0, .c (.int .i64 z), .c (.int .i64 10)] [.vec 5 1 0 n f] (.vec 0 2) [.vec 5 1 2 (n + (Lib.itoa z).length) (catF n f (itoaF z))] := by
  have hc := appendIntI_ok z h0 h1 n hn f
  refine DoesM.mk (fun _ => false) 100 TT_ok Tryz.func87 rfl (by kernel_rfl) Tryz.ntmps87 rfl rfl rfl fun E hT hE hN hR => ?_
  have hm := mixO hE
  (repeat (first | refine XK.n ?_ | refine XK.a ?_ | refine XK.b ?_))
  (repeat (first | refine XK.n ?_ | refine XK.a ?_ | refine XK.b ?_)); refine XK.region ?_; refine XL.g ?_
  refine XL.callMA [0] hE rfl rfl rfl rfl trivial (hc) rfl rfl rfl rfl rfl ?_
  refine XL.g ?_; refine XL.fin ?_; (repeat (first | refine XK.n ?_ | refine XK.a ?_ | refine XK.b ?_))
  (first | refine XK.outR [0] hN rfl rfl rfl ?_ rfl rfl ?_ | refine XK.outRN [0] hN rfl rfl rfl ?_ rfl rfl ?_)
  · exact frI
  · exact frI
end
end Go.Proofs.YtlcfoelfcnhenaaGreatDoor
