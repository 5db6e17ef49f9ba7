/-
  Print of a Datum, the code's and the document's (walks, turned from the Datum seat). Not a statement of the seat.
-/
import Derived.Shelf.Strings.Builder1
import Derived.Shelf.Strings.Builder2
import Derived.Shelf.Small.Strs
import Derived.Shelf.Small.Wraps
import Derived.Shelf.Strings.BuilderF
import Derived.Shelf.Strings.BuilderK
import Derived.Shelf.Strconv.Itoa0
import Derived.Shelf.Strconv.Itoa1
import Derived.Shelf.LaysM
import Derived.Shelf.Strconv.Itoa2
import Derived.Shelf.Strconv.Itoa3
import Derived.Shelf.Strconv.Itoa4
import Derived.Shelf.Bits.Mul64
import Derived.Shelf.Strings.Repeat
import Derived.Lib.Hide
import Derived.RegionTactic
import Derived.ChangeAlike
import Derived.Deep.QuietTactic
import Derived.BigQuiet
import Derived.Deep.Cut
import Derived.WalkSmall
import Derived.ScopeJumps
import Derived.WalkMore
import Derived.Laws.IdiomStrings
import Derived.Defers
import Derived.Laws.BitsAllLaws
import Derived.WalkSpells
import Derived.Deep.RegionHeld3
import Derived.Test.YtbldidiibkcelaaGreatDoorTHeldL
/-
  The shelf's contracts at this dump, in plain words: printed by the kit's own lay-shelf and lay-plain, and the writers of strings.Builder laid by hand. Not a statement of the seat.
-/
namespace Go.Proofs
open Go.Shelf
def Tryz.lays169_ren : Go.Shelf.Ren := ⟨fun | 169 => 158 | n => n, fun | 70 => 246 | 9 => 9 | 0 => 0 | 72 => 248 | 37 => 188 | 127 => 238 | 3 => 3 | 5 => 5 | n => n, fun | n => n⟩
theorem Tryz.lays169 : Go.Proofs.Lays.n169 Tryz.prog Tryz.lays169_ren := {
  mixed := by kernel_rfl
  f169 := Tryz.func158.trans (congrArg some (by kernel_rfl))
  t0 := Tryz.underlying0
  a0 := Tryz.isAgg0
  z0 := Tryz.sizeOf0
  v0 := Tryz.zeroValue0
  t3 := Tryz.underlying3
  a3 := Tryz.isAgg3
  z3 := Tryz.sizeOf3
  v3 := Tryz.zeroValue3
  t9 := Tryz.underlying9
  a9 := Tryz.isAgg9
  z9 := Tryz.sizeOf9
  v9 := Tryz.zeroValue9
  t37 := Tryz.underlying188
  a37 := Tryz.isAgg188
  z37 := Tryz.sizeOf188
  v37 := Tryz.zeroValue188
  t70 := Tryz.underlying246
  a70 := Tryz.isAgg246
  z70 := Tryz.sizeOf246
  v70 := Tryz.zeroValue246
  t72 := Tryz.underlying248
  a72 := Tryz.isAgg248
  z72 := Tryz.sizeOf248
  v72 := Tryz.zeroValue248
  t127 := Tryz.underlying238
  a127 := Tryz.isAgg238
  z127 := Tryz.sizeOf238
  v127 := Tryz.zeroValue238 }
theorem Tryz.Builder_Extra_169 : Builder.Extra Tryz.prog Tryz.lays169_ren := {
  sizeBuilder := by kernel_rfl
  liesBuilder := by kernel_rfl
  t5 := Tryz.underlying5
  a5 := Tryz.isAgg5
  z5 := Tryz.sizeOf5
  v5 := Tryz.zeroValue5
  infoByte := by kernel_rfl
  cellsByte := by kernel_rfl
  sizeByte := by kernel_rfl
  neB5 := by decide }
def Tryz.lays121_ren : Go.Shelf.Ren := ⟨fun | 121 => 173 | 214 => 179 | n => n, fun | 4 => 4 | 9 => 9 | n => n, fun | n => n⟩
theorem Tryz.lays121 : Go.Proofs.Lays.n121 Tryz.prog Tryz.lays121_ren := {
  mixed := by kernel_rfl
  f121 := Tryz.func173.trans (congrArg some (by kernel_rfl))
  f214 := Tryz.func179.trans (congrArg some (by kernel_rfl))
  t4 := Tryz.underlying4
  a4 := Tryz.isAgg4
  z4 := Tryz.sizeOf4
  v4 := Tryz.zeroValue4
  t9 := Tryz.underlying9
  a9 := Tryz.isAgg9
  z9 := Tryz.sizeOf9
  v9 := Tryz.zeroValue9 }
open Go.RowKit in
theorem Tryz.strconv_FormatBool (b : Bool) (w : World) :
    Calls Tryz.prog 173 #[.bool b] w fun e w' => e = .returned (.string ⟨(Lib.formatBool b).toArray⟩) ∧ w' = w := Any.strconv_FormatBool Tryz.lays121 b w
open Go.RowKit in
theorem Tryz.Builder_String_any_k (B b : Nat) (l : List UInt8) (w : World) (h : Lib.IsBuilderF 248 5 B b (Lib.byteCells l) w) (hBw : B ≤ w.heap.size) :
    Calls Tryz.prog 158 #[.pointer (some ⟨b, 0, none⟩)] w fun e w' => e = .returned (.string ⟨l.toArray⟩) ∧ (Lib.IsBuilderF 248 5 B b (Lib.byteCells l) w' ∧ Below B w w' ∧ Lib.OthersKept 5 (some b) w w') := Any.Builder_String_any_k Tryz.lays169 Tryz.Builder_Extra_169 B b l w h hBw
def Tryz.laysM173_ren : Go.Shelf.Ren := ⟨fun | 173 => 63 | 246 => 94 | 283 => 107 | 284 => 108 | 285 => 109 | 286 => 110 | 129 => 117 | 317 => 116 | 318 => 118 | 319 => 119 | 320 => 120 | 337 => 121 | 338 => 122 | n => n, fun | 2 => 2 | 3 => 3 | 9 => 9 | 4 => 4 | 171 => 185 | 0 => 0 | 53 => 22 | 37 => 188 | 5 => 5 | 173 => 189 | 212 => 220 | 51 => 221 | 20 => 20 | 213 => 222 | 46 => 150 | 232 => 226 | 233 => 227 | n => n, fun | 17 => 3 | 18 => 4 | 19 => 5 | n => n⟩
theorem Tryz.laysM173 : Go.Proofs.LaysM.n173 Tryz.prog Tryz.laysM173_ren := {
  mixed := by kernel_rfl
  f129 := Tryz.func117.trans (congrArg some (by kernel_rfl))
  f173 := Tryz.func63.trans (congrArg some (by kernel_rfl))
  f246 := Tryz.func94.trans (congrArg some (by kernel_rfl))
  f283 := Tryz.func107.trans (congrArg some (by kernel_rfl))
  f284 := Tryz.func108.trans (congrArg some (by kernel_rfl))
  f285 := Tryz.func109.trans (congrArg some (by kernel_rfl))
  f286 := Tryz.func110.trans (congrArg some (by kernel_rfl))
  f317 := Tryz.func116.trans (congrArg some (by kernel_rfl))
  f318 := Tryz.func118.trans (congrArg some (by kernel_rfl))
  f319 := Tryz.func119.trans (congrArg some (by kernel_rfl))
  f320 := Tryz.func120.trans (congrArg some (by kernel_rfl))
  f337 := Tryz.func121.trans (congrArg some (by kernel_rfl))
  f338 := Tryz.func122.trans (congrArg some (by kernel_rfl))
  t0 := Tryz.underlying0
  a0 := Tryz.isAgg0
  z0 := Tryz.sizeOf0
  v0 := Tryz.zeroValue0
  t2 := Tryz.underlying2
  a2 := Tryz.isAgg2
  z2 := Tryz.sizeOf2
  v2 := Tryz.zeroValue2
  t3 := Tryz.underlying3
  a3 := Tryz.isAgg3
  z3 := Tryz.sizeOf3
  v3 := Tryz.zeroValue3
  t4 := Tryz.underlying4
  a4 := Tryz.isAgg4
  z4 := Tryz.sizeOf4
  v4 := Tryz.zeroValue4
  t5 := Tryz.underlying5
  a5 := Tryz.isAgg5
  z5 := Tryz.sizeOf5
  v5 := Tryz.zeroValue5
  t9 := Tryz.underlying9
  a9 := Tryz.isAgg9
  z9 := Tryz.sizeOf9
  v9 := Tryz.zeroValue9
  t20 := Tryz.underlying20
  a20 := Tryz.isAgg20
  z20 := Tryz.sizeOf20
  v20 := Tryz.zeroValue20
  t37 := Tryz.underlying188
  a37 := Tryz.isAgg188
  z37 := Tryz.sizeOf188
  v37 := Tryz.zeroValue188
  t46 := Tryz.underlying150
  a46 := Tryz.isAgg150
  z46 := Tryz.sizeOf150
  v46 := Tryz.zeroValue150
  t51 := Tryz.underlying221
  a51 := Tryz.isAgg221
  z51 := Tryz.sizeOf221
  v51 := Tryz.zeroValue221
  t53 := Tryz.underlying22
  a53 := Tryz.isAgg22
  z53 := Tryz.sizeOf22
  v53 := Tryz.zeroValue22
  t171 := Tryz.underlying185
  a171 := Tryz.isAgg185
  z171 := Tryz.sizeOf185
  v171 := Tryz.zeroValue185
  t173 := Tryz.underlying189
  a173 := Tryz.isAgg189
  z173 := Tryz.sizeOf189
  v173 := Tryz.zeroValue189
  t212 := Tryz.underlying220
  a212 := Tryz.isAgg220
  z212 := Tryz.sizeOf220
  v212 := Tryz.zeroValue220
  t213 := Tryz.underlying222
  a213 := Tryz.isAgg222
  z213 := Tryz.sizeOf222
  t232 := Tryz.underlying226
  a232 := Tryz.isAgg226
  z232 := Tryz.sizeOf226
  v232 := Tryz.zeroValue226
  t233 := Tryz.underlying227
  a233 := Tryz.isAgg227
  z233 := Tryz.sizeOf227
  v233 := Tryz.zeroValue227
  g17 := by kernel_rfl
  g18 := by kernel_rfl
  g19 := by kernel_rfl
  i0 := by kernel_rfl
  i2 := by kernel_rfl
  i3 := by kernel_rfl
  i4 := by kernel_rfl
  i5 := by kernel_rfl
  i9 := by kernel_rfl
  i20 := by kernel_rfl
  i37 := by kernel_rfl
  i46 := by kernel_rfl
  i51 := by kernel_rfl
  i53 := by kernel_rfl
  i171 := by kernel_rfl
  i173 := by kernel_rfl
  i212 := by kernel_rfl
  i232 := by kernel_rfl
  i233 := by kernel_rfl
  m17 := by kernel_rfl
  m18 := by kernel_rfl
  m19 := by kernel_rfl }
open Go.RowKit Go.Sort Go.Lib in
theorem Tryz.strconv_FormatInt_10 (n : Int) (h0 : -9223372036854775808 ≤ n) (h1 : n ≤ 9223372036854775807) (w : World) (htab : Lib.TabIs Tryz.prog w "internal/strconv.uint64pow10" .u64 Lib.pow10Tab) :
    Calls Tryz.prog 63 #[.int .i64 n, .int .i64 10] w fun e w' => e = .returned (.string ⟨(Lib.itoa n).toArray⟩) ∧ ∃ k os, w' = grow (w.drewN k) os := Any.strconv_FormatInt_10 Tryz.laysM173 n h0 h1 w htab
def Tryz.lays105_ren : Go.Shelf.Ren := ⟨fun | 105 => 170 | 212 => 176 | 99 => 177 | 165 => 156 | 166 => 157 | 170 => 178 | 169 => 158 | 263 => 180 | 264 => 181 | 206 => 182 | 240 => 159 | 241 => 160 | 276 => 161 | 277 => 162 | n => n, fun | 9 => 9 | 3 => 3 | 4 => 4 | 20 => 20 | 0 => 0 | 46 => 150 | 109 => 261 | 5 => 5 | 72 => 248 | 76 => 250 | 51 => 221 | 146 => 264 | 53 => 22 | 148 => 266 | 70 => 246 | 37 => 188 | 75 => 68 | 127 => 238 | 164 => 153 | 80 => 85 | n => n, fun | n => n⟩
theorem Tryz.lays105 : Go.Proofs.Lays.n105 Tryz.prog Tryz.lays105_ren := {
  mixed := by kernel_rfl
  f99 := Tryz.func177.trans (congrArg some (by kernel_rfl))
  f105 := Tryz.func170.trans (congrArg some (by kernel_rfl))
  f165 := Tryz.func156.trans (congrArg some (by kernel_rfl))
  f166 := Tryz.func157.trans (congrArg some (by kernel_rfl))
  f169 := Tryz.func158.trans (congrArg some (by kernel_rfl))
  f170 := Tryz.func178.trans (congrArg some (by kernel_rfl))
  f206 := Tryz.func182.trans (congrArg some (by kernel_rfl))
  f212 := Tryz.func176.trans (congrArg some (by kernel_rfl))
  f240 := Tryz.func159.trans (congrArg some (by kernel_rfl))
  f241 := Tryz.func160.trans (congrArg some (by kernel_rfl))
  f263 := Tryz.func180.trans (congrArg some (by kernel_rfl))
  f264 := Tryz.func181.trans (congrArg some (by kernel_rfl))
  f276 := Tryz.func161.trans (congrArg some (by kernel_rfl))
  f277 := Tryz.func162.trans (congrArg some (by kernel_rfl))
  t0 := Tryz.underlying0
  a0 := Tryz.isAgg0
  z0 := Tryz.sizeOf0
  v0 := Tryz.zeroValue0
  t3 := Tryz.underlying3
  a3 := Tryz.isAgg3
  z3 := Tryz.sizeOf3
  v3 := Tryz.zeroValue3
  t4 := Tryz.underlying4
  a4 := Tryz.isAgg4
  z4 := Tryz.sizeOf4
  v4 := Tryz.zeroValue4
  t5 := Tryz.underlying5
  a5 := Tryz.isAgg5
  z5 := Tryz.sizeOf5
  v5 := Tryz.zeroValue5
  t9 := Tryz.underlying9
  a9 := Tryz.isAgg9
  z9 := Tryz.sizeOf9
  v9 := Tryz.zeroValue9
  t20 := Tryz.underlying20
  a20 := Tryz.isAgg20
  z20 := Tryz.sizeOf20
  v20 := Tryz.zeroValue20
  t37 := Tryz.underlying188
  a37 := Tryz.isAgg188
  z37 := Tryz.sizeOf188
  v37 := Tryz.zeroValue188
  t46 := Tryz.underlying150
  a46 := Tryz.isAgg150
  z46 := Tryz.sizeOf150
  v46 := Tryz.zeroValue150
  t51 := Tryz.underlying221
  a51 := Tryz.isAgg221
  z51 := Tryz.sizeOf221
  v51 := Tryz.zeroValue221
  t53 := Tryz.underlying22
  a53 := Tryz.isAgg22
  z53 := Tryz.sizeOf22
  v53 := Tryz.zeroValue22
  t70 := Tryz.underlying246
  a70 := Tryz.isAgg246
  z70 := Tryz.sizeOf246
  v70 := Tryz.zeroValue246
  t72 := Tryz.underlying248
  a72 := Tryz.isAgg248
  z72 := Tryz.sizeOf248
  v72 := Tryz.zeroValue248
  t75 := Tryz.underlying68
  a75 := Tryz.isAgg68
  z75 := Tryz.sizeOf68
  v75 := Tryz.zeroValue68
  t76 := Tryz.underlying250
  a76 := Tryz.isAgg250
  z76 := Tryz.sizeOf250
  v76 := Tryz.zeroValue250
  t109 := Tryz.underlying261
  a109 := Tryz.isAgg261
  z109 := Tryz.sizeOf261
  v109 := Tryz.zeroValue261
  t127 := Tryz.underlying238
  a127 := Tryz.isAgg238
  z127 := Tryz.sizeOf238
  v127 := Tryz.zeroValue238
  t146 := Tryz.underlying264
  a146 := Tryz.isAgg264
  z146 := Tryz.sizeOf264
  v146 := Tryz.zeroValue264
  t148 := Tryz.underlying266
  a148 := Tryz.isAgg266
  z148 := Tryz.sizeOf266
  v148 := Tryz.zeroValue266
  t164 := Tryz.underlying153
  a164 := Tryz.isAgg153
  z164 := Tryz.sizeOf153
  v164 := Tryz.zeroValue153 }
theorem Tryz.Builder_Extra_105 : Builder.Extra Tryz.prog Tryz.lays105_ren := {
  sizeBuilder := by kernel_rfl
  liesBuilder := by kernel_rfl
  t5 := Tryz.underlying5
  a5 := Tryz.isAgg5
  z5 := Tryz.sizeOf5
  v5 := Tryz.zeroValue5
  infoByte := by kernel_rfl
  cellsByte := by kernel_rfl
  sizeByte := by kernel_rfl
  neB5 := by decide }
open Go.RowKit Go.Lib in
theorem Tryz.strings_Repeat (s : ByteArray) (c : Nat) (w : World) (hc : c ≤ 9223372036854775807) (hlen : s.size * c ≤ 140737488355328) :
    Calls Tryz.prog 170 #[.string s, .int .i64 c] w fun e w' => e = .returned (.string ⟨(Lib.repeatL s.data.toList c).toArray⟩) ∧ Below w.heap.size w w' := Any.strings_Repeat Tryz.lays105 Tryz.Builder_Extra_105 s c w hc hlen
def Tryz.lays167_ren : Go.Shelf.Ren := ⟨fun | 167 => 172 | 240 => 159 | 276 => 161 | n => n, fun | 0 => 0 | 4 => 4 | 5 => 5 | 9 => 9 | 20 => 20 | 37 => 188 | 70 => 246 | 72 => 248 | 75 => 68 | 80 => 85 | 164 => 153 | n => n, fun | n => n⟩
theorem Tryz.lays167 : Go.Proofs.Lays.n167 Tryz.prog Tryz.lays167_ren := {
  mixed := by kernel_rfl
  f167 := Tryz.func172.trans (congrArg some (by kernel_rfl))
  f240 := Tryz.func159.trans (congrArg some (by kernel_rfl))
  f276 := Tryz.func161.trans (congrArg some (by kernel_rfl))
  t0 := Tryz.underlying0
  a0 := Tryz.isAgg0
  z0 := Tryz.sizeOf0
  v0 := Tryz.zeroValue0
  t4 := Tryz.underlying4
  a4 := Tryz.isAgg4
  z4 := Tryz.sizeOf4
  v4 := Tryz.zeroValue4
  t5 := Tryz.underlying5
  a5 := Tryz.isAgg5
  z5 := Tryz.sizeOf5
  v5 := Tryz.zeroValue5
  t9 := Tryz.underlying9
  a9 := Tryz.isAgg9
  z9 := Tryz.sizeOf9
  v9 := Tryz.zeroValue9
  t20 := Tryz.underlying20
  a20 := Tryz.isAgg20
  z20 := Tryz.sizeOf20
  v20 := Tryz.zeroValue20
  t37 := Tryz.underlying188
  a37 := Tryz.isAgg188
  z37 := Tryz.sizeOf188
  v37 := Tryz.zeroValue188
  t70 := Tryz.underlying246
  a70 := Tryz.isAgg246
  z70 := Tryz.sizeOf246
  v70 := Tryz.zeroValue246
  t72 := Tryz.underlying248
  a72 := Tryz.isAgg248
  z72 := Tryz.sizeOf248
  v72 := Tryz.zeroValue248
  t75 := Tryz.underlying68
  a75 := Tryz.isAgg68
  z75 := Tryz.sizeOf68
  v75 := Tryz.zeroValue68
  t164 := Tryz.underlying153
  a164 := Tryz.isAgg153
  z164 := Tryz.sizeOf153
  v164 := Tryz.zeroValue153 }
theorem Tryz.Builder_Extra_167 : Builder.Extra Tryz.prog Tryz.lays167_ren := {
  sizeBuilder := by kernel_rfl
  liesBuilder := by kernel_rfl
  t5 := Tryz.underlying5
  a5 := Tryz.isAgg5
  z5 := Tryz.sizeOf5
  v5 := Tryz.zeroValue5
  infoByte := by kernel_rfl
  cellsByte := by kernel_rfl
  sizeByte := by kernel_rfl
  neB5 := by decide }
def Tryz.lays166_ren : Go.Shelf.Ren := ⟨fun | 166 => 157 | 240 => 159 | 276 => 161 | n => n, fun | 0 => 0 | 3 => 3 | 4 => 4 | 5 => 5 | 9 => 9 | 20 => 20 | 37 => 188 | 70 => 246 | 72 => 248 | 75 => 68 | 80 => 85 | 164 => 153 | n => n, fun | n => n⟩
theorem Tryz.lays166 : Go.Proofs.Lays.n166 Tryz.prog Tryz.lays166_ren := {
  mixed := by kernel_rfl
  f166 := Tryz.func157.trans (congrArg some (by kernel_rfl))
  f240 := Tryz.func159.trans (congrArg some (by kernel_rfl))
  f276 := Tryz.func161.trans (congrArg some (by kernel_rfl))
  t0 := Tryz.underlying0
  a0 := Tryz.isAgg0
  z0 := Tryz.sizeOf0
  v0 := Tryz.zeroValue0
  t3 := Tryz.underlying3
  a3 := Tryz.isAgg3
  z3 := Tryz.sizeOf3
  v3 := Tryz.zeroValue3
  t4 := Tryz.underlying4
  a4 := Tryz.isAgg4
  z4 := Tryz.sizeOf4
  v4 := Tryz.zeroValue4
  t9 := Tryz.underlying9
  a9 := Tryz.isAgg9
  z9 := Tryz.sizeOf9
  v9 := Tryz.zeroValue9
  t20 := Tryz.underlying20
  a20 := Tryz.isAgg20
  z20 := Tryz.sizeOf20
  v20 := Tryz.zeroValue20
  t37 := Tryz.underlying188
  a37 := Tryz.isAgg188
  z37 := Tryz.sizeOf188
  v37 := Tryz.zeroValue188
  t70 := Tryz.underlying246
  a70 := Tryz.isAgg246
  z70 := Tryz.sizeOf246
  v70 := Tryz.zeroValue246
  t72 := Tryz.underlying248
  a72 := Tryz.isAgg248
  z72 := Tryz.sizeOf248
  v72 := Tryz.zeroValue248
  t75 := Tryz.underlying68
  a75 := Tryz.isAgg68
  z75 := Tryz.sizeOf68
  v75 := Tryz.zeroValue68
  t164 := Tryz.underlying153
  a164 := Tryz.isAgg153
  z164 := Tryz.sizeOf153
  v164 := Tryz.zeroValue153 }
theorem Tryz.Builder_Extra_166 : Builder.Extra Tryz.prog Tryz.lays166_ren := {
  sizeBuilder := by kernel_rfl
  liesBuilder := by kernel_rfl
  t5 := Tryz.underlying5
  a5 := Tryz.isAgg5
  z5 := Tryz.sizeOf5
  v5 := Tryz.zeroValue5
  infoByte := by kernel_rfl
  cellsByte := by kernel_rfl
  sizeByte := by kernel_rfl
  neB5 := by decide }
open Go.RowKit in
theorem Tryz.Builder_WriteByte_k (B b : Nat) (bs : List Value) (c : Int) (w : World) (h : Lib.IsBuilderF 248 5 B b bs w) (hlen : bs.length + 1 ≤ 140737488355328) (hBw : B ≤ w.heap.size) :
    Calls Tryz.prog 172 #[.pointer (some ⟨b, 0, none⟩), .int .u8 c] w fun e w' => e = .returned .nilIface ∧ (Lib.BuilderAtF 248 5 B b (.pointer (some ⟨b, 0, none⟩)) (bs ++ [.int .u8 c]) w' ∧ Below B w w' ∧ Lib.OthersKept 5 (some b) w w') := Any.Builder_WriteByte_k Tryz.lays167 Tryz.Builder_Extra_167 B b bs c w h hlen hBw
open Go.RowKit in
theorem Tryz.Builder_WriteString_k (B b : Nat) (bs : List Value) (s : ByteArray) (w : World) (h : Lib.IsBuilderF 248 5 B b bs w) (hlen : bs.length + s.size ≤ 140737488355328) (hBw : B ≤ w.heap.size) :
    Calls Tryz.prog 157 #[.pointer (some ⟨b, 0, none⟩), .string s] w fun e w' => e = .returned (.tuple #[.int .i64 s.size, .nilIface]) ∧ (Lib.BuilderAtF 248 5 B b (.pointer (some ⟨b, 0, none⟩)) (bs ++ Lib.strCells s) w' ∧ Below B w w' ∧ Lib.OthersKept 5 (some b) w w') := Any.Builder_WriteString_k Tryz.lays166 Tryz.Builder_Extra_166 B b bs s w h hlen hBw
end Go.Proofs


/-
  The program's reader: has, want (walks). Not a statement of the seat.
-/
namespace Go.Proofs.YtbldidiibkcelaaGreatDoor
open Go.RowKit

/-- the reader's block: the text, the place, the depth, whether it is no value -/
def Rdr (w : World) (rb : Nat) (S : ByteArray) (a deep : Nat) (bad : Bool) : Prop := Blk w rb [.string S, .int .i64 a, .int .i64 deep, .bool bad]
end Go.Proofs.YtbldidiibkcelaaGreatDoor


/-
  The program's reader: while (walk). Not a statement of the seat.
-/
namespace Go.Proofs.YtbldidiibkcelaaGreatDoor
open Go.RowKit

theorem wrapI {z : Int} (h0 : -9223372036854775808 ≤ z) (h1 : z ≤ 9223372036854775807) : IntKind.i64.wrap z = z := by
  rw [IntKind.wrap_i64]; omega
end Go.Proofs.YtbldidiibkcelaaGreatDoor


/-
  The program's reader: number (walk). Not a statement of the seat.
-/
namespace Go.Proofs.YtbldidiibkcelaaGreatDoor
open Go.RowKit

/-- what the library's variables hold -/
structure Lb (w : World) : Prop where
  size : 7 ≤ w.heap.size
  tab : Lib.TabIs Tryz.prog w "internal/strconv.uint64pow10" .u64 Lib.pow10Tab
  tz : w.cell? ⟨5, 15, none⟩ = some (.int .u8 4)
theorem Lb.same {w w' : World} (h : Lb w) (hs : w.heap.size ≤ w'.heap.size) (hb : ∀ b, b < 7 → w'.heap[b]? = w.heap[b]?) : Lb w' := by
  obtain ⟨h1, h2, h5⟩ := h
  refine ⟨by omega, ?_, (World.cell?_of_block (a := ⟨5, 15, none⟩) (hb 5 (by omega))).trans h5⟩
  have hg : Tryz.prog.globalNamed "internal/strconv.uint64pow10" = some 3 := by kernel_rfl
  unfold Lib.TabIs World.var? at h2 ⊢
  rw [hg] at h2 ⊢
  simp only [Option.bind_some] at h2 ⊢
  rw [hb 3 (by omega)]
  exact h2
theorem Lb.below {w w' : World} (h : Lb w) {B : Nat} (g : Below B w w') (hB : 7 ≤ B) : Lb w' := h.same g.size (fun b hb => g.block b (by omega))
theorem below_grow (w : World) (os : Array Obj) (k : Nat) : Below w.heap.size w (Go.Sort.grow (w.drewN k) os) := by
  have h := below_drewN w.heap.size w k
  refine ⟨h.os, h.tape, h.output, ?_, fun b hb => ?_⟩
  · have := h.size
    simp only [Go.Sort.grow, Array.size_append]
    omega
  · rw [← h.block b hb]
    have := h.size
    simp only [Go.Sort.grow]
    rw [Array.getElem?_append_left (by omega)]
theorem decimalN {n : Int} {w : World} (h0 : -9223372036854775808 ≤ n) (h1 : n ≤ 9223372036854775807) (h : Lb w) :
    Calls Tryz.prog 168 #[.int .i64 n] w (fun e w' => e = .returned (.string ⟨(dec n).toArray⟩) ∧ Below w.heap.size w w') := by
  have hd := dec_eq n h0 h1
  have HT := Lib.hid h.tab
  clear h
  go_enter Tryz.func168, Tryz.ntmps168
  go_wp2_with (go_at_call 63; refine (Tryz.strconv_FormatInt_10 _ h0 h1 _ HT.out).mono ?_; rintro e w1 ⟨rfl, k, os, rfl⟩)
  go_ret
  exact ⟨by rw [hd]; rfl, below_grow _ _ _⟩
end Go.Proofs.YtbldidiibkcelaaGreatDoor


/-
  unpaired: digits, two a byte (walk). Not a statement of the seat.
-/
namespace Go.Proofs.YtbldidiibkcelaaGreatDoor
open Go.RowKit

def B8 (b : Bs) : List Value := b.map (fun x => Value.int .u8 (x.toNat : Int))
theorem B8_length (b : Bs) : (B8 b).length = b.length := by simp [B8]
end Go.Proofs.YtbldidiibkcelaaGreatDoor


/-
  quoted (walk). Not a statement of the seat.
-/
namespace Go.Proofs.YtbldidiibkcelaaGreatDoor
open Go.RowKit

theorem Rdr.drewN {w : World} {rb a deep : Nat} {S : ByteArray} {bad : Bool} (h : Rdr w rb S a deep bad) (m : Nat) : Rdr (w.drewN m) rb S a deep bad := h.below (below_drewN _ _ _)
section
variable {S : Bs} {a f : Nat} {o : Bs} {c : UInt8}
end

end Go.Proofs.YtbldidiibkcelaaGreatDoor


/-
  value: the doors (walks). Not a statement of the seat.
-/
namespace Go.Proofs.YtbldidiibkcelaaGreatDoor
open Go.RowKit

/-- the box of the pointer, and the box of the result -/
def bx (w : World) (rb : Nat) : World := (w.alloc (.cells #[.pointer (some ⟨rb, 0, none⟩)] 58)).alloc (.cells #[.int .i64 0, .int .i64 0, .int .u64 0, .string ⟨#[]⟩, .slice none 0 0] 25)
structure Bx (w wx : World) (rb : Nat) (vs : List Value) : Prop where
  ptr : Blk wx w.heap.size [.pointer (some ⟨rb, 0, none⟩)]
  out : Blk wx (w.heap.size + 1) vs
  kept : Kept (N1 rb) w wx
theorem Bx.new (w : World) (rb : Nat) : Bx w (bx w rb) rb (V5 0 0 0 ⟨#[]⟩ none 0 0) :=
  ⟨(Blk.new w _ _).alloc _, by simpa [bx, V5] using Blk.new (w.alloc (.cells #[.pointer (some ⟨rb, 0, none⟩)] 58)) #[.int .i64 0, .int .i64 0, .int .u64 0, .string ⟨#[]⟩, .slice none 0 0] 25, ((Kept.refl _ _).alloc _).alloc _⟩
end Go.Proofs.YtbldidiibkcelaaGreatDoor


/-
  The document's Hex and Quoted (walks). Not a statement of the seat.
-/
namespace Go.Proofs.YtbldidiibkcelaaGreatDoor
open Go.RowKit

theorem cat2 (a b : UInt8) : (⟨#[a]⟩ ++ ⟨#[b]⟩ : ByteArray) = ⟨#[a, b]⟩ := by
  apply ByteArray.ext
  rw [ByteArray.data_append]
  rfl
theorem hexExt : ∀ x : Fin 16, (⟨#[48, 49, 50, 51, 52, 53, 54, 55, 56, 57, 97, 98, 99, 100, 101, 102]⟩ : ByteArray).extract x.val (x.val + 1) = ⟨#[hexD.getD x.val 0]⟩ := by decide
set_option maxRecDepth 100000 in
theorem hexR (c : UInt8) (w : World) : Calls Tryz.prog 91 #[.int .u8 (c.toNat : Int)] w (fun e w' => e = .returned (.string ⟨(hex2 c).toArray⟩) ∧ ∃ m, w' = w.drewN m) := by
  have hc := c.toNat_lt
  have ha := u8_and_nat c.toNat 15 hc (by omega)
  rw [nat_mask4] at ha
  replace ha : bits .and .u8 (c.toNat : Int) 15 = ((c.toNat % 16 : Nat) : Int) := ha
  have hd : (c.toNat : Int) / 16 = ((c.toNat / 16 : Nat) : Int) := by omega
  have h2 : hex2 c = [hexD.getD (c.toNat / 16) 0, hexD.getD (c.toNat % 16) 0] := rfl
  have hx := hexExt ⟨c.toNat / 16, by omega⟩
  have hy := hexExt ⟨c.toNat % 16, by omega⟩
  simp only at hx hy
  rw [h2]
  have hx16 : c.toNat / 16 < 16 := by omega
  have hy16 : c.toNat % 16 < 16 := by omega
  clear h2 hc
  generalize c.toNat / 16 = x at *
  generalize c.toNat % 16 = y at *
  generalize hexD.getD x 0 = p at *
  generalize hexD.getD y 0 = q at *
  have i1 : IntKind.u8.wrap ((x : Int) + 1) = (x : Int) + 1 := by simp [IntKind.wrap, IntKind.bits, IntKind.signed]; omega
  have i2 : IntKind.u8.wrap ((y : Int) + 1) = (y : Int) + 1 := by simp [IntKind.wrap, IntKind.bits, IntKind.signed]; omega
  have b1 : (0 : Int) ≤ (x : Int) := by omega
  have b2 : (x : Int) + 1 ≤ 16 := by omega
  have b3 : (0 : Int) ≤ (y : Int) := by omega
  have b4 : (y : Int) + 1 ≤ 16 := by omega
  have b5 : (x : Int) ≤ (x : Int) + 1 := by omega
  have b6 : (y : Int) ≤ (y : Int) + 1 := by omega
  go_enter Tryz.func91, Tryz.ntmps91
  go_wp2_with fail
  go_region
  go_wp2_with fail
  go_ret
  exact ⟨by show _ = Ending.returned (Value.string ⟨#[p, q]⟩); rw [← cat2]; rfl, 1, rfl⟩
/-- between two rounds -/
def rq (L : Bs) (k : Nat) : Bs := 34 :: (L.take k).flatMap quoteOne
theorem rq_len (L : Bs) (k : Nat) : (rq L k).length ≤ 1 + 4 * k := by
  have h1 : ∀ l : Bs, (l.flatMap quoteOne).length ≤ 4 * l.length := by
    intro l
    induction l with
    | nil => simp
    | cons c r ih =>
      have : (quoteOne c).length ≤ 4 := by unfold quoteOne; split <;> (try split) <;> simp [hex2]
      simp only [List.flatMap_cons, List.length_append, List.length_cons]
      omega
  have h2 : (L.take k).length ≤ k := by rw [List.length_take]; omega
  have h3 := h1 (L.take k)
  simp only [rq, List.length_cons]
  omega
theorem rq_next {L : Bs} {k : Nat} (h : k < L.length) : rq L (k + 1) = rq L k ++ quoteOne L[k] := by
  have h1 : L.take (k + 1) = L.take k ++ [L[k]] := by rw [List.take_add_one, List.getElem?_eq_getElem h]; rfl
  simp only [rq]
  rw [h1, List.flatMap_append]
  simp
def RqRel (s : ByteArray) (w : World) (t3 t4 : Value) (wr : World) : Prop := ∃ (k : Nat) (o : ByteArray), k ≤ s.size ∧ t3 = .string o ∧ t4 = .int .i64 (k : Nat) ∧ o.data.toList = rq s.data.toList k ∧ Below w.heap.size w wr
theorem ext_one {s : ByteArray} {k : Nat} (h : k < s.size) : s.extract k (k + 1) = ⟨#[s[k]]⟩ := by
  apply ByteArray.ext
  apply Array.toList_inj.1
  have hl : k < s.data.toList.length := by rw [← Lib.size_eq]; exact h
  rw [Lib.extract_data, Nat.add_sub_cancel_left, List.drop_eq_getElem_cons hl]
  simp [ByteArray.getElem_eq_getElem_data]
theorem cat_data (a b : ByteArray) : (a ++ b).data.toList = a.data.toList ++ b.data.toList := by rw [ByteArray.data_append, Array.toList_append]
set_option maxHeartbeats 4000000 in
set_option maxRecDepth 100000 in
theorem quotedR {s : ByteArray} (hS : s.size ≤ 1000000000000) (w : World) :
    Calls Tryz.prog 92 #[.string s] w (fun e w' => e = .returned (.string ⟨(quoteM s.data.toList).toArray⟩) ∧ Below w.heap.size w w') := by
  have HSZ := Lib.hid (Lib.size_eq s)
  have HSS := Lib.hid hS
  go_enter Tryz.func92, Tryz.ntmps92
  go_wp2_with fail
  go_loopw [3, 4] (fun t3 t4 wr => RqRel s w t3 t4 wr) (fun _ t4 _ => s.size - (intOf t4).toNat)
  case atStart => exact ⟨0, _, Nat.zero_le _, rfl, rfl, rfl, Below.refl _ _⟩
  case round =>
    obtain ⟨k, o, hk, rfl, rfl, ho, hb⟩ := hrel
    have HO := Lib.hid ho
    have HB := Lib.hid hb
    have hol : o.size ≤ 1 + 4 * k := by rw [Lib.size_eq, ho]; exact rq_len _ _
    clear ho hb
    by_cases h1 : k < s.size
    · have h1i : (k : Int) < (s.size : Int) := by omega
      have hqn := rq_next (L := s.data.toList) (k := k) (by rw [← HSZ.out]; exact h1)
      have hgl : s.data.toList[k]'(by rw [← HSZ.out]; exact h1) = s[k] := by simp [ByteArray.getElem_eq_getElem_data]
      rw [hgl] at hqn
      have HQN := Lib.hid hqn
      have hx1 := ext_one h1
      have HX1 := Lib.hid hx1
      have hcb := (s[k]).toNat_lt
      clear hqn hgl hx1
      have g1 : (0 : Int) ≤ (k : Int) := by omega
      have g2 : (k : Int) + 1 ≤ (s.size : Int) := by omega
      have g3 : (k : Int) ≤ (k : Int) + 1 := by omega
      have g4 : k + 1 ≤ s.size := by omega
      have n1 : ¬ 9223372036854775807 < o.size + 1 := by omega
      by_cases h34 : s[k] = 34
      · have hs34 : ((s[k].toNat : Int) == 34) = true := by rw [h34]; rfl
        have H34 := Lib.hid h34
        clear h34
        go_wp2_with fail
        refine ⟨⟨k + 1, _, by omega, rfl, by go_num, ?_, HB.out⟩, by simp [intOf]; omega⟩
        rw [HQN.out, cat_data, cat_data, HO.out, HX1.out, H34.out]
        simp [quoteOne]
      by_cases h92 : s[k] = 92
      · have hs34 : ((s[k].toNat : Int) == 34) = false := by rw [h92]; rfl
        have hs92 : ((s[k].toNat : Int) == 92) = true := by rw [h92]; rfl
        have H92 := Lib.hid h92
        clear h34 h92
        go_wp2_with fail
        refine ⟨⟨k + 1, _, by omega, rfl, by go_num, ?_, HB.out⟩, by simp [intOf]; omega⟩
        rw [HQN.out, cat_data, cat_data, HO.out, HX1.out, H92.out]
        simp [quoteOne]
      have hs34 : ((s[k].toNat : Int) == 34) = false := by
        have : s[k].toNat ≠ 34 := fun e => h34 (UInt8.toNat_inj.1 (by show s[k].toNat = 34; exact e))
        simp; omega
      have hs92 : ((s[k].toNat : Int) == 92) = false := by
        have : s[k].toNat ≠ 92 := fun e => h92 (UInt8.toNat_inj.1 (by show s[k].toNat = 92; exact e))
        simp; omega
      have HCC := Lib.hid (And.intro h34 h92)
      clear h34 h92
      by_cases hrg : s[k].toNat < 32 ∨ 126 < s[k].toNat
      · have hrg2 : s[k] < 32 ∨ 126 < s[k] := by
          rcases hrg with h | h
          · exact .inl (UInt8.lt_iff_toNat_lt.2 h)
          · exact .inr (UInt8.lt_iff_toNat_lt.2 h)
        have HRG := Lib.hid hrg2
        clear hrg2
        have n2 : ¬ 9223372036854775807 < o.size + 2 := by omega
        have n3 : ¬ 9223372036854775807 < o.size + 2 + 2 := by omega
        have HC := Lib.hid (hexR s[k] wr)
        have hl2 : (hex2 s[k]).length = 2 := rfl
        have HL2 := Lib.hid hl2
        generalize hxx : hex2 s[k] = hh at *
        have n4 : ¬ 9223372036854775807 < o.size + 2 + hh.length := by rw [hl2]; exact n3
        have HXX := Lib.hid hxx
        clear hl2 hxx n3
        rcases hrg with hrg | hrg
        · have h32 : (s[k].toNat : Int) < 32 := by omega
          go_wp2_with (go_at_call 91; (with_reducible refine HC.out.mono ?_); rintro e w1 ⟨rfl, m, rfl⟩)
          refine ⟨⟨k + 1, _, by omega, rfl, by go_num, ?_, HB.out.trans (below_drewN _ _ _)⟩, by simp [intOf]; omega⟩
          rw [HQN.out, cat_data, cat_data, HO.out, List.append_assoc]
          congr 1
          unfold quoteOne
          rw [if_neg (by intro h; rcases h with h | h; exact HCC.out.1 h; exact HCC.out.2 h), if_pos HRG.out, HXX.out]
          rfl
        · have h32 : ¬ (s[k].toNat : Int) < 32 := by omega
          have h126 : (126 : Int) < (s[k].toNat : Int) := by omega
          go_wp2_with (go_at_call 91; (with_reducible refine HC.out.mono ?_); rintro e w1 ⟨rfl, m, rfl⟩)
          refine ⟨⟨k + 1, _, by omega, rfl, by go_num, ?_, HB.out.trans (below_drewN _ _ _)⟩, by simp [intOf]; omega⟩
          rw [HQN.out, cat_data, cat_data, HO.out, List.append_assoc]
          congr 1
          unfold quoteOne
          rw [if_neg (by intro h; rcases h with h | h; exact HCC.out.1 h; exact HCC.out.2 h), if_pos HRG.out, HXX.out]
          rfl
      · have hrg2 : ¬ (s[k] < 32 ∨ 126 < s[k]) := by rw [UInt8.lt_iff_toNat_lt, UInt8.lt_iff_toNat_lt]; exact hrg
        have HRG := Lib.hid hrg2
        have hn32 : ¬ (s[k].toNat : Int) < 32 := by omega
        have hn126 : ¬ (126 : Int) < (s[k].toNat : Int) := by omega
        clear hrg2 hrg
        go_wp2_with fail
        refine ⟨⟨k + 1, _, by omega, rfl, by go_num, ?_, HB.out⟩, by simp [intOf]; omega⟩
        rw [HQN.out, cat_data, HO.out, HX1.out]
        congr 1
        unfold quoteOne
        rw [if_neg (by intro h; rcases h with h | h; exact HCC.out.1 h; exact HCC.out.2 h), if_neg HRG.out]
    · have hke : k = s.size := by omega
      have h1i : ¬ (k : Int) < (s.size : Int) := by omega
      have n1 : ¬ 9223372036854775807 < o.size + 1 := by omega
      have hq0 : quoteM s.data.toList = o.data.toList ++ [34] := by rw [HO.out, quoteM, rq, List.take_of_length_le (by rw [← HSZ.out]; omega)]; rfl
      have HQ0 := Lib.hid hq0
      clear hq0
      go_wp2_with fail
      go_ret
      refine ⟨?_, HB.out⟩
      rw [HQ0.out, show o.data.toList ++ [34] = (o ++ ⟨#[34]⟩).data.toList by rw [cat_data], Lib.mk_data]
      rfl
end Go.Proofs.YtbldidiibkcelaaGreatDoor


/-
  The builder's writes; quote, pairs (walks). Not a statement of the seat.
-/
namespace Go.Proofs.YtbldidiibkcelaaGreatDoor
open Go.RowKit

/-- the builder holds these bytes; what lies below B is not its own -/
structure Bd (B bb : Nat) (acc : Bs) (w : World) : Prop where
  is : Lib.IsBuilderF 248 5 B bb (Lib.byteCells acc) w
  le : B ≤ w.heap.size
/-- what writes leave: all below B, and all that holds no bytes -/
structure Kb (B bb : Nat) (w w' : World) : Prop where
  below : Below B w w'
  others : Lib.OthersKept 5 (some bb) w w'
def big : Nat := 140737488355328
theorem Kb.refl (B bb : Nat) (w : World) : Kb B bb w w := ⟨Below.refl _ _, Lib.OthersKept.refl _ _ _⟩
theorem Kb.trans {B bb : Nat} {w w1 w2 : World} (h : Kb B bb w w1) (g : Kb B bb w1 w2) : Kb B bb w w2 := ⟨h.below.trans g.below, h.others.trans g.others⟩
theorem others_below {e : TypeId} {b : Option Nat} {a w w' : World} (h : Lib.OthersKept e b a w) (g : Below w.heap.size w w') : Lib.OthersKept e b a w' := fun k o hk hne hno => by
  have h1 := h k o hk hne hno
  have hlt : k < w.heap.size := by
    by_cases hl : k < w.heap.size
    · exact hl
    · rw [Array.getElem?_eq_none (by omega)] at h1; cases h1
  rw [g.block k hlt]; exact h1
theorem Kb.calm {B bb : Nat} {w w1 w2 : World} (h : Kb B bb w w1) (hB : B ≤ w.heap.size) (g : Below w1.heap.size w1 w2) : Kb B bb w w2 :=
  ⟨h.below.trans (g.mono (Nat.le_trans hB h.below.size)), others_below h.others g⟩
theorem ownsF_below {w w' : World} {base : Nat} {e : TypeId} {size : Nat} {v : Value} {n : Nat} {xs : List Value} (h : w.ownsRowF base e size v n xs) (g : Below w.heap.size w w') : w'.ownsRowF base e size v n xs := by
  obtain ⟨h1, h2⟩ := h
  refine ⟨h1, ?_⟩
  rcases h2 with h2 | ⟨b, cap, cur, fz, hv, hb, hh, rest⟩
  · exact .inl h2
  · have hlt : b < w.heap.size := by
      by_cases hl : b < w.heap.size
      · exact hl
      · rw [Array.getElem?_eq_none (by omega)] at hh; cases hh
    exact .inr ⟨b, cap, cur, fz, hv, hb, by rw [g.block b hlt]; exact hh, rest⟩
theorem isF_below {T e : TypeId} {B b : Nat} {bs : List Value} {w w' : World} (h : Lib.IsBuilderF T e B b bs w) (g : Below w.heap.size w w') : Lib.IsBuilderF T e B b bs w' := by
  have key : ∀ p, Lib.BuilderAtF T e B b p bs w → Lib.BuilderAtF T e B b p bs w' := by
    rintro p ⟨hB, v, hb, hown, hne⟩
    have hlt : b < w.heap.size := by
      by_cases hl : b < w.heap.size
      · exact hl
      · rw [Array.getElem?_eq_none (by omega)] at hb; cases hb
    exact ⟨hB, v, by rw [g.block b hlt]; exact hb, ownsF_below hown g, hne⟩
  exact h.elim (fun x => .inl (key _ x)) (fun x => .inr (key _ x))
theorem Bd.calm {B bb : Nat} {acc : Bs} {w w' : World} (h : Bd B bb acc w) (g : Below w.heap.size w w') : Bd B bb acc w' := ⟨isF_below h.is g, Nat.le_trans h.le g.size⟩
/-- a box that holds no bytes -/
def TB (w : World) (k : Nat) (cs : List Value) : Prop := Blk w k cs ∧ ∃ o, w.heap[k]? = some o ∧ ∀ c fz, o ≠ .cells c 5 fz
theorem TB.kb {B bb k : Nat} {w w' : World} {cs : List Value} (h : TB w k cs) (g : Kb B bb w w') (hk : k ≠ bb) : TB w' k cs := by
  obtain ⟨h1, o, h2, h3⟩ := h
  have h4 := g.others k o h2 (fun e => hk (Option.some.inj e)) h3
  exact ⟨h1.same (by rw [h2, h4]), o, h4, h3⟩
theorem TB.below {k : Nat} {w w' : World} {cs : List Value} (h : TB w k cs) (g : Below w.heap.size w w') : TB w' k cs := by
  obtain ⟨h1, o, h2, h3⟩ := h
  exact ⟨h1.below g, o, by rw [g.block k h1.1]; exact h2, h3⟩
theorem TB.new (w : World) (cs : Array Value) (t : TypeId) (ht : t ≠ 5) : TB (w.alloc (.cells cs t)) w.heap.size cs.toList := by
  refine ⟨Blk.new w cs t, .cells cs t, ?_, fun c fz e => ht (by cases e; rfl)⟩
  show (w.heap.push (.cells cs t))[w.heap.size]? = _
  simp
theorem writeS {B bb : Nat} {acc : Bs} {s : ByteArray} {w : World} (h : Bd B bb acc w) (hl : acc.length + s.size ≤ big) :
    Calls Tryz.prog 157 #[.pointer (some ⟨bb, 0, none⟩), .string s] w (fun e w' => e = .returned (.tuple #[.int .i64 s.size, .nilIface]) ∧ Bd B bb (acc ++ s.data.toList) w' ∧ Kb B bb w w') := by
  refine (Tryz.Builder_WriteString_k B bb (Lib.byteCells acc) s w h.is (by rw [Lib.byteCells_length]; exact hl) h.le).mono ?_
  rintro e w' ⟨rfl, h1, h2, h3⟩
  refine ⟨rfl, ⟨.inr ?_, Nat.le_trans h.le h2.size⟩, h2, h3⟩
  rw [Lib.byteCells_append, ← Lib.strCells_eq]
  exact h1
theorem writeB {B bb : Nat} {acc : Bs} (c : UInt8) {w : World} (h : Bd B bb acc w) (hl : acc.length + 1 ≤ big) :
    Calls Tryz.prog 172 #[.pointer (some ⟨bb, 0, none⟩), .int .u8 (c.toNat : Int)] w (fun e w' => e = .returned .nilIface ∧ Bd B bb (acc ++ [c]) w' ∧ Kb B bb w w') := by
  refine (Tryz.Builder_WriteByte_k B bb (Lib.byteCells acc) c.toNat w h.is (by rw [Lib.byteCells_length]; exact hl) h.le).mono ?_
  rintro e w' ⟨rfl, h1, h2, h3⟩
  refine ⟨rfl, ⟨.inr ?_, Nat.le_trans h.le h2.size⟩, h2, h3⟩
  rw [Lib.byteCells_append]
  exact h1
theorem writeL {B bb : Nat} {acc : Bs} (c : UInt8) (z : Int) (hz : (c.toNat : Int) = z) {w : World} (h : Bd B bb acc w) (hl : acc.length + 1 ≤ big) :
    Calls Tryz.prog 172 #[.pointer (some ⟨bb, 0, none⟩), .int .u8 z] w (fun e w' => e = .returned .nilIface ∧ Bd B bb (acc ++ [c]) w' ∧ Kb B bb w w') := by
  subst hz
  exact writeB c h hl
theorem hexAt : ∀ (i : Nat) (h : i < (⟨#[48, 49, 50, 51, 52, 53, 54, 55, 56, 57, 97, 98, 99, 100, 101, 102]⟩ : ByteArray).size), (⟨#[48, 49, 50, 51, 52, 53, 54, 55, 56, 57, 97, 98, 99, 100, 101, 102]⟩ : ByteArray)[i] = hexD.getD i 0 := by decide
theorem quote_len (l : Bs) : (l.flatMap quoteOne).length ≤ 4 * l.length := by
  induction l with
  | nil => simp
  | cons c r ih =>
    have : (quoteOne c).length ≤ 4 := by unfold quoteOne; split <;> (try split) <;> simp [hex2]
    simp only [List.flatMap_cons, List.length_append, List.length_cons]
    omega
def qAt (acc : Bs) (L : Bs) (k : Nat) : Bs := acc ++ 34 :: (L.take k).flatMap quoteOne
theorem qAt_len (acc L : Bs) (k : Nat) : (qAt acc L k).length ≤ acc.length + 1 + 4 * k := by
  have h1 := quote_len (L.take k)
  have h2 : (L.take k).length ≤ k := by rw [List.length_take]; omega
  simp only [qAt, List.length_append, List.length_cons]
  omega
theorem qAt_next {acc L : Bs} {k : Nat} (h : k < L.length) : qAt acc L (k + 1) = qAt acc L k ++ quoteOne L[k] := by
  have h1 : L.take (k + 1) = L.take k ++ [L[k]] := by rw [List.take_add_one, List.getElem?_eq_getElem h]; rfl
  simp only [qAt]
  rw [h1, List.flatMap_append]
  simp
def QuRel (B bb : Nat) (acc : Bs) (s : ByteArray) (w : World) (t : Value) (wr : World) : Prop :=
  ∃ k, k ≤ s.size ∧ t = .int .i64 (k : Nat) ∧ Bd B bb (qAt acc s.data.toList k) wr ∧ Kb B bb w wr
set_option maxHeartbeats 4000000 in
set_option maxRecDepth 100000 in
theorem quoteN {B bb : Nat} {acc : Bs} {s : ByteArray} {w : World} (h : Bd B bb acc w) (hl : acc.length + 4 * s.size + 2 ≤ big) :
    Calls Tryz.prog 171 #[.pointer (some ⟨bb, 0, none⟩), .string s] w (fun e w' => e = .returned (.tuple #[]) ∧ Bd B bb (acc ++ quoteM s.data.toList) w' ∧ Kb B bb w w') := by
  have hS : s.size ≤ 1000000000000000 := by unfold big at hl; omega
  have HSZ := Lib.hid (Lib.size_eq s)
  have HLL := Lib.hid hl
  have HC := Lib.hid (writeL 34 34 rfl h (by omega))
  clear h hl
  go_enter Tryz.func171, Tryz.ntmps171
  go_wp2_with (go_at_call 172; refine HC.out.mono ?_; rintro e w1 ⟨rfl, hB1, hK1⟩)
  have H0 := Lib.hid (show QuRel B bb acc s w (.int .i64 0) w1 from ⟨0, Nat.zero_le _, rfl, by simpa [qAt] using hB1, hK1⟩)
  clear hB1 hK1 HC
  go_loopw [10] (fun t wr => QuRel B bb acc s w t wr) (fun t _ => s.size - (intOf t).toNat)
  case atStart => exact H0.out
  case round =>
    obtain ⟨k, hk, rfl, hB, hK⟩ := hrel
    have HB := Lib.hid hB
    have HK := Lib.hid hK
    clear hB hK H0
    by_cases h1 : k < s.size
    · have h1i : (k : Int) < (s.size : Int) := by omega
      have hqn := qAt_next (acc := acc) (L := s.data.toList) (k := k) (by rw [← HSZ.out]; exact h1)
      have hgl : s.data.toList[k]'(by rw [← HSZ.out]; exact h1) = s[k] := by simp [ByteArray.getElem_eq_getElem_data]
      rw [hgl] at hqn
      have hql := qAt_len acc s.data.toList k
      have HQN := Lib.hid hqn
      have HQL := Lib.hid hql
      clear hqn hgl hql
      go_upto_region 6 with (fail)
      generalize s[k] = c at *
      have hcb := c.toNat_lt
      by_cases h34 : c = 34
      · subst h34
        have HC1 := Lib.hid (writeL 92 92 rfl HB.out (by have := HLL.out; have := HQL.out; (try simp only [List.length_append, List.length_cons, List.length_nil]); unfold big at *; omega))
        go_wp2_with (first
          | (go_at_call 172; (with_reducible refine HC1.out.mono ?_); rintro e w1 ⟨rfl, hBx, hKx⟩; have HB1 := Lib.hid hBx; have HK1 := Lib.hid (HK.out.trans hKx); have HC2 := Lib.hid (writeL 34 34 rfl HB1.out (by have := HLL.out; have := HQL.out; (try simp only [List.length_append, List.length_cons, List.length_nil]); unfold big at *; omega)); clear hBx hKx)
          | (go_at_call 172; (with_reducible refine HC2.out.mono ?_); rintro e w2 ⟨rfl, hBx, hKx⟩; have HB2 := Lib.hid hBx; have HK2 := Lib.hid (HK1.out.trans hKx); clear hBx hKx))
        go_roundw
        case rel =>
          refine ⟨k + 1, by omega, by go_num, ?_, HK2.out⟩
          rw [HQN.out]
          have hfin := HB2.out
          simpa [quoteOne] using hfin
        case measure => simp [intOf]; omega
      · by_cases h92 : c = 92
        · subst h92
          have HC1 := Lib.hid (writeL 92 92 rfl HB.out (by have := HLL.out; have := HQL.out; (try simp only [List.length_append, List.length_cons, List.length_nil]); unfold big at *; omega))
          go_wp2_with (first
            | (go_at_call 172; (with_reducible refine HC1.out.mono ?_); rintro e w1 ⟨rfl, hBx, hKx⟩; have HB1 := Lib.hid hBx; have HK1 := Lib.hid (HK.out.trans hKx); have HC2 := Lib.hid (writeL 92 92 rfl HB1.out (by have := HLL.out; have := HQL.out; (try simp only [List.length_append, List.length_cons, List.length_nil]); unfold big at *; omega)); clear hBx hKx)
            | (go_at_call 172; (with_reducible refine HC2.out.mono ?_); rintro e w2 ⟨rfl, hBx, hKx⟩; have HB2 := Lib.hid hBx; have HK2 := Lib.hid (HK1.out.trans hKx); clear hBx hKx))
          go_roundw
          case rel =>
            refine ⟨k + 1, by omega, by go_num, ?_, HK2.out⟩
            rw [HQN.out]
            have hfin := HB2.out
            simpa [quoteOne] using hfin
          case measure => simp [intOf]; omega
        · have hs34 : ((c.toNat : Int) == 34) = false := by
            have : c.toNat ≠ 34 := fun e => h34 (UInt8.toNat_inj.1 (by show c.toNat = 34; exact e))
            simp; omega
          have hs92 : ((c.toNat : Int) == 92) = false := by
            have : c.toNat ≠ 92 := fun e => h92 (UInt8.toNat_inj.1 (by show c.toNat = 92; exact e))
            simp; omega
          have HCC := Lib.hid (And.intro h34 h92)
          clear h34 h92
          by_cases hrg : c.toNat < 32 ∨ 126 < c.toNat
          · have hrg2 : c < 32 ∨ 126 < c := by
              rcases hrg with h | h
              · exact .inl (UInt8.lt_iff_toNat_lt.2 h)
              · exact .inr (UInt8.lt_iff_toNat_lt.2 h)
            have HRG := Lib.hid hrg2
            clear hrg2
            have HC1 := Lib.hid (writeS (s := ⟨#[92, 120]⟩) HB.out (by show _ + 2 ≤ big; have := HLL.out; have := HQL.out; unfold big at *; omega))
            have HI := Lib.hid (show c.toNat / 16 < (⟨#[48, 49, 50, 51, 52, 53, 54, 55, 56, 57, 97, 98, 99, 100, 101, 102]⟩ : ByteArray).size ∧ c.toNat % 16 < (⟨#[48, 49, 50, 51, 52, 53, 54, 55, 56, 57, 97, 98, 99, 100, 101, 102]⟩ : ByteArray).size by show _ < 16 ∧ _ < 16; omega)
            have hlen0 := HQL.out
            have HLA := Lib.hid (show (qAt acc s.data.toList k ++ (⟨#[92, 120]⟩ : ByteArray).data.toList).length + 1 ≤ big by rw [List.length_append]; show _ + 2 + 1 ≤ big; have := HLL.out; unfold big at *; omega)
            have HLB := Lib.hid (show ∀ x, ((qAt acc s.data.toList k ++ (⟨#[92, 120]⟩ : ByteArray).data.toList) ++ [x]).length + 1 ≤ big by intro x; rw [List.length_append, List.length_append]; show _ + 2 + 1 + 1 ≤ big; have := HLL.out; unfold big at *; omega)
            clear hlen0
            rcases hrg with hrg | hrg
            · go_wp2_with (first
                | (go_at_call 157; (with_reducible refine HC1.out.mono ?_); rintro e w1 ⟨rfl, hBx, hKx⟩; have HB1 := Lib.hid hBx; have HK1 := Lib.hid (HK.out.trans hKx); have HC2 := Lib.hid (writeB ((⟨#[48, 49, 50, 51, 52, 53, 54, 55, 56, 57, 97, 98, 99, 100, 101, 102]⟩ : ByteArray)[c.toNat / 16]'HI.out.1) hBx HLA.out); clear hBx hKx)
                | (go_at_call 172; (with_reducible refine HC2.out.mono ?_); rintro e w2 ⟨rfl, hBx, hKx⟩; have HB2 := Lib.hid hBx; have HK2 := Lib.hid (HK1.out.trans hKx); have HC3 := Lib.hid (writeB ((⟨#[48, 49, 50, 51, 52, 53, 54, 55, 56, 57, 97, 98, 99, 100, 101, 102]⟩ : ByteArray)[c.toNat % 16]'HI.out.2) hBx (HLB.out _)); clear hBx hKx)
                | (go_at_call 172; (with_reducible refine HC3.out.mono ?_); rintro e w3 ⟨rfl, hBx, hKx⟩; have HB3 := Lib.hid hBx; have HK3 := Lib.hid (HK2.out.trans hKx); clear hBx hKx))
              go_roundw
              case rel =>
                refine ⟨k + 1, by omega, by go_num, ?_, HK3.out⟩
                rw [HQN.out]
                have hfin := HB3.out
                rw [hexAt _ HI.out.1, hexAt _ HI.out.2] at hfin
                simpa [quoteOne, HCC.out.1, HCC.out.2, HRG.out, hex2] using hfin
              case measure => simp [intOf]; omega
            · go_wp2_with (first
                | (go_at_call 157; (with_reducible refine HC1.out.mono ?_); rintro e w1 ⟨rfl, hBx, hKx⟩; have HB1 := Lib.hid hBx; have HK1 := Lib.hid (HK.out.trans hKx); have HC2 := Lib.hid (writeB ((⟨#[48, 49, 50, 51, 52, 53, 54, 55, 56, 57, 97, 98, 99, 100, 101, 102]⟩ : ByteArray)[c.toNat / 16]'HI.out.1) hBx HLA.out); clear hBx hKx)
                | (go_at_call 172; (with_reducible refine HC2.out.mono ?_); rintro e w2 ⟨rfl, hBx, hKx⟩; have HB2 := Lib.hid hBx; have HK2 := Lib.hid (HK1.out.trans hKx); have HC3 := Lib.hid (writeB ((⟨#[48, 49, 50, 51, 52, 53, 54, 55, 56, 57, 97, 98, 99, 100, 101, 102]⟩ : ByteArray)[c.toNat % 16]'HI.out.2) hBx (HLB.out _)); clear hBx hKx)
                | (go_at_call 172; (with_reducible refine HC3.out.mono ?_); rintro e w3 ⟨rfl, hBx, hKx⟩; have HB3 := Lib.hid hBx; have HK3 := Lib.hid (HK2.out.trans hKx); clear hBx hKx))
              go_roundw
              case rel =>
                refine ⟨k + 1, by omega, by go_num, ?_, HK3.out⟩
                rw [HQN.out]
                have hfin := HB3.out
                rw [hexAt _ HI.out.1, hexAt _ HI.out.2] at hfin
                simpa [quoteOne, HCC.out.1, HCC.out.2, HRG.out, hex2] using hfin
              case measure => simp [intOf]; omega
          · have hrg2 : ¬ (c < 32 ∨ 126 < c) := by rw [UInt8.lt_iff_toNat_lt, UInt8.lt_iff_toNat_lt]; exact hrg
            have HRG := Lib.hid hrg2
            have hn32 : ¬ (c.toNat : Int) < 32 := by omega
            have hn126 : ¬ (126 : Int) < (c.toNat : Int) := by omega
            clear hrg2 hrg
            have HC1 := Lib.hid (writeB c HB.out (by have := HLL.out; have := HQL.out; (try simp only [List.length_append, List.length_cons, List.length_nil]); unfold big at *; omega))
            go_wp2_with (first
              | (go_at_call 172; (with_reducible refine HC1.out.mono ?_); rintro e w1 ⟨rfl, hBx, hKx⟩; have HB1 := Lib.hid hBx; have HK1 := Lib.hid (HK.out.trans hKx); clear hBx hKx))
            go_roundw
            case rel =>
              refine ⟨k + 1, by omega, by go_num, ?_, HK1.out⟩
              rw [HQN.out]
              have hfin := HB1.out
              simpa [quoteOne, HCC.out.1, HCC.out.2, HRG.out] using hfin
            case measure => simp [intOf]; omega
    · have hke : k = s.size := by omega
      have h1i : ¬ (k : Int) < (s.size : Int) := by omega
      have hq0 : qAt acc s.data.toList k = acc ++ 34 :: s.data.toList.flatMap quoteOne := by rw [qAt, List.take_of_length_le (by rw [← HSZ.out]; omega)]
      have hql := qAt_len acc s.data.toList k
      have HC := Lib.hid (writeL 34 34 rfl HB.out (by have := HLL.out; unfold big at *; omega))
      rw [hq0] at HC
      clear hq0 hql
      go_wp2_with (go_at_call 172; refine HC.out.mono ?_; rintro e w2 ⟨rfl, hB2, hK2⟩)
      go_end0
      exact ⟨rfl, by simpa [quoteM] using hB2, HK.out.trans hK2⟩
end Go.Proofs.YtbldidiibkcelaaGreatDoor


/-
  pairs (walk). Not a statement of the seat.
-/
namespace Go.Proofs.YtbldidiibkcelaaGreatDoor
open Go.RowKit

theorem Bd.new (w : World) : Bd w.heap.size w.heap.size [] (w.alloc (.cells #[.pointer none, .slice none 0 0] 248)) := by
  refine ⟨.inl ⟨Nat.le_refl _, .slice none 0 0, ?_, ⟨rfl, .inl ⟨rfl, rfl⟩⟩, by simp [Value.ownBlock]⟩, by simp⟩
  show (w.heap.push _)[w.heap.size]? = _
  simp
theorem stringN {B bb : Nat} {acc : Bs} {w : World} (h : Bd B bb acc w) :
    Calls Tryz.prog 158 #[.pointer (some ⟨bb, 0, none⟩)] w (fun e w' => e = .returned (.string ⟨acc.toArray⟩) ∧ Bd B bb acc w' ∧ Kb B bb w w') := by
  refine (Tryz.Builder_String_any_k B bb acc w h.is h.le).mono ?_
  rintro e w' ⟨rfl, h1, h2, h3⟩
  exact ⟨rfl, ⟨h1, Nat.le_trans h.le h2.size⟩, h2, h3⟩
theorem pairs_len (l : Bs) : (pairsM l).length = 2 * l.length := by
  unfold pairsM
  induction l with
  | nil => rfl
  | cons c r ih => simp only [List.flatMap_cons, List.length_append, ih, List.length_cons]; simp [hex2]; omega
def PaRel (bb : Nat) (s : ByteArray) (w : World) (t : Value) (wr : World) : Prop :=
  ∃ k, k ≤ s.size ∧ t = .int .i64 (k : Nat) ∧ Bd bb bb (pairsM (s.data.toList.take k)) wr ∧ Below bb w wr
set_option maxHeartbeats 4000000 in
set_option maxRecDepth 100000 in
theorem pairsN {s : ByteArray} {w : World} (hl : 2 * s.size + 2 ≤ big) :
    Calls Tryz.prog 174 #[.string s] w (fun e w' => e = .returned (.string ⟨(pairsM s.data.toList).toArray⟩) ∧ Below w.heap.size w w') := by
  have hS : s.size ≤ 1000000000000000 := by unfold big at hl; omega
  have HSZ := Lib.hid (Lib.size_eq s)
  have HLL := Lib.hid hl
  have hB0 := Bd.new w
  have hK0 : Below w.heap.size w (w.alloc (.cells #[.pointer none, .slice none 0 0] 248)) := (Below.refl _ _).alloc (Nat.le_refl _) _
  clear hl
  go_enter Tryz.func174, Tryz.ntmps174
  go_upto_region 2 with (fail)
  generalize w.alloc (.cells #[.pointer none, .slice none 0 0] 248) = w1 at *
  generalize hbb : w.heap.size = bb at *
  have H0 := Lib.hid (show PaRel bb s w (.int .i64 0) w1 from ⟨0, Nat.zero_le _, rfl, by simpa [pairsM] using hB0, hK0⟩)
  clear hB0 hK0
  go_wp2_with fail
  go_loopw [7] (fun t wr => PaRel bb s w t wr) (fun t _ => s.size - (intOf t).toNat)
  case atStart => exact H0.out
  case round =>
    obtain ⟨k, hk, rfl, hB, hK⟩ := hrel
    have HB := Lib.hid hB
    have HK := Lib.hid hK
    clear hB hK H0
    by_cases h1 : k < s.size
    · have h1i : (k : Int) < (s.size : Int) := by omega
      have htk : s.data.toList.take (k + 1) = s.data.toList.take k ++ [s.data.toList[k]'(by rw [← HSZ.out]; exact h1)] := by rw [List.take_add_one, List.getElem?_eq_getElem (by rw [← HSZ.out]; exact h1)]; rfl
      have hgl : s.data.toList[k]'(by rw [← HSZ.out]; exact h1) = s[k] := by simp [ByteArray.getElem_eq_getElem_data]
      rw [hgl] at htk
      have hpl := pairs_len (s.data.toList.take k)
      rw [List.length_take, ← HSZ.out] at hpl
      have HTK := Lib.hid htk
      have hcb := (s[k]).toNat_lt
      have HI := Lib.hid (show (s[k]).toNat / 16 < (⟨#[48, 49, 50, 51, 52, 53, 54, 55, 56, 57, 97, 98, 99, 100, 101, 102]⟩ : ByteArray).size ∧ (s[k]).toNat % 16 < (⟨#[48, 49, 50, 51, 52, 53, 54, 55, 56, 57, 97, 98, 99, 100, 101, 102]⟩ : ByteArray).size by show _ < 16 ∧ _ < 16; omega)
      have HLA := Lib.hid (show (pairsM (s.data.toList.take k)).length + 1 ≤ big by have := HLL.out; unfold big at *; omega)
      have HLB := Lib.hid (show ∀ x, (pairsM (s.data.toList.take k) ++ [x]).length + 1 ≤ big by intro x; rw [List.length_append]; show _ + 1 + 1 ≤ big; have := HLL.out; unfold big at *; omega)
      have HC1 := Lib.hid (writeB ((⟨#[48, 49, 50, 51, 52, 53, 54, 55, 56, 57, 97, 98, 99, 100, 101, 102]⟩ : ByteArray)[(s[k]).toNat / 16]'HI.out.1) HB.out HLA.out)
      clear htk hgl hpl
      go_wp2_with (first
        | (go_at_call 172; (with_reducible refine HC1.out.mono ?_); rintro e w2 ⟨rfl, hBx, hKx⟩; have HB2 := Lib.hid hBx; have HK2 := Lib.hid (HK.out.trans hKx.below); have HC3 := Lib.hid (writeB ((⟨#[48, 49, 50, 51, 52, 53, 54, 55, 56, 57, 97, 98, 99, 100, 101, 102]⟩ : ByteArray)[(s[k]).toNat % 16]'HI.out.2) hBx (HLB.out _)); clear hBx hKx)
        | (go_at_call 172; (with_reducible refine HC3.out.mono ?_); rintro e w3 ⟨rfl, hBx, hKx⟩; have HB3 := Lib.hid hBx; have HK3 := Lib.hid (HK2.out.trans hKx.below); clear hBx hKx))
      go_roundw
      case rel =>
        refine ⟨k + 1, by omega, by go_num, ?_, HK3.out⟩
        rw [HTK.out]
        have hfin := HB3.out
        rw [hexAt _ HI.out.1, hexAt _ HI.out.2] at hfin
        unfold pairsM at *
        rw [List.flatMap_append]
        simpa [hex2] using hfin
      case measure => simp [intOf]; omega
    · have hke : k = s.size := by omega
      have h1i : ¬ (k : Int) < (s.size : Int) := by omega
      have hq0 : s.data.toList.take k = s.data.toList := by rw [List.take_of_length_le (by rw [← HSZ.out]; omega)]
      have hB := HB.out
      rw [hq0] at hB
      have HC := Lib.hid (stringN hB)
      clear hq0 hB
      go_wp2_with (go_at_call 158; (with_reducible refine HC.out.mono ?_); rintro e w2 ⟨rfl, hB2, hK2⟩)
      go_ret
      exact ⟨rfl, by rw [hbb]; exact HK.out.trans hK2.below⟩
end Go.Proofs.YtbldidiibkcelaaGreatDoor


/-
  FormatUint at base 16 (walks). Not a statement of the seat.
-/
namespace Go.Proofs.YtbldidiibkcelaaGreatDoor
open Go.RowKit

/-- the hex digits of a number, none ahead of the first -/
def hx (u : Nat) : Bs := if _h : u < 16 then [hexD.getD u 0] else hx (u / 16) ++ [hexD.getD (u % 16) 0]
termination_by u
decreasing_by omega
theorem hx_small {u : Nat} (h : u < 16) : hx u = [hexD.getD u 0] := by rw [hx, dif_pos h]
theorem hx_big {u : Nat} (h : ¬ u < 16) : hx u = hx (u / 16) ++ [hexD.getD (u % 16) 0] := by rw [hx, dif_neg h]
theorem hx_len : ∀ (n u : Nat), u < 16 ^ (n + 1) → 1 ≤ (hx u).length ∧ (hx u).length ≤ n + 1
  | 0, u, h => by
    rw [hx_small (by simpa using h)]
    simp
  | n + 1, u, h => by
    by_cases h1 : u < 16
    · rw [hx_small h1]; simp
    · have := hx_len n (u / 16) (by rw [Nat.pow_succ] at h; omega)
      rw [hx_big h1, List.length_append, List.length_singleton]
      omega
theorem hexN_zero : ∀ n, hexN n 0 = List.replicate n 48
  | 0 => rfl
  | n + 1 => by
    rw [hexN, hexN_zero n, List.replicate_succ']
    rfl
theorem hx_pad : ∀ (n u : Nat), u < 16 ^ (n + 1) → List.replicate (n + 1 - (hx u).length) 48 ++ hx u = hexN (n + 1) u
  | 0, u, h => by
    have h1 : u < 16 := by simpa using h
    rw [hx_small h1, hexN, Nat.mod_eq_of_lt h1]
    rfl
  | n + 1, u, h => by
    by_cases h1 : u < 16
    · rw [hx_small h1, hexN, Nat.mod_eq_of_lt h1, Nat.div_eq_of_lt h1, hexN_zero]
      rfl
    · have h2 : u / 16 < 16 ^ (n + 1) := by rw [Nat.pow_succ] at h; omega
      have h3 := hx_len n _ h2
      rw [hx_big h1, hexN, ← hx_pad n (u / 16) h2, List.length_append, List.length_singleton, ← List.append_assoc]
      congr 3
      omega
theorem digAt : ∀ (i : Nat) (h : i < (⟨#[48, 49, 50, 51, 52, 53, 54, 55, 56, 57, 97, 98, 99, 100, 101, 102, 103, 104, 105, 106, 107, 108, 109, 110, 111, 112, 113, 114, 115, 116, 117, 118, 119, 120, 121, 122]⟩ : ByteArray).size), i < 16 → (⟨#[48, 49, 50, 51, 52, 53, 54, 55, 56, 57, 97, 98, 99, 100, 101, 102, 103, 104, 105, 106, 107, 108, 109, 110, 111, 112, 113, 114, 115, 116, 117, 118, 119, 120, 121, 122]⟩ : ByteArray)[i] = hexD.getD i 0 := by decide
theorem and15 {u : Nat} (h : u < 18446744073709551616) : bits .and .u64 (u : Int) 15 = ((u % 16 : Nat) : Int) := by
  have := u64_and_nat u 15 h (by omega)
  rw [nat_mask4] at this
  exact this
/-- between two rounds: i: the place of the first digit written -/
def HxRel (u : Nat) (w : World) (t1 t13 : Value) (wr : World) : Prop :=
  ∃ (i v : Nat) (cs : List Value) (D : Bs), t1 = .int .u64 (v : Nat) ∧ t13 = .int .i64 (i : Nat) ∧ 50 ≤ i ∧ i ≤ 65 ∧ v < 16 ^ (i - 49) ∧ Blk wr w.heap.size cs ∧ cs.length = 65 ∧ cs.drop i = B8 D ∧ hx u = hx v ++ D ∧ Below w.heap.size w wr
theorem drop_set_last {cs : List Value} {i : Nat} {v : Value} (h : i < cs.length) : (cs.set i v).drop i = v :: cs.drop (i + 1) := by
  rw [List.drop_set, if_neg (by omega), Nat.sub_self]
  rw [List.drop_eq_getElem_cons h]
  rfl
theorem pow16 (w : World) : Calls Tryz.prog 119 #[.int .i64 16] w (fun e w' => e = .returned (.bool true) ∧ w' = w) := by
  have hb : (bits BinOp.and IntKind.i64 16 15 == 0) = true := by decide +kernel
  go_enter Tryz.func119, Tryz.ntmps119
  go_wp2
  go_ret
  exact ⟨rfl, rfl⟩
theorem tz16 {w : World} (htz : w.cell? ⟨5, 15, none⟩ = some (.int .u8 4)) : Calls Tryz.prog 120 #[.int .u64 16] w (fun e w' => e = .returned (.int .i64 4) ∧ w' = w) := by
  have hq : IntKind.u64.wrap (bits BinOp.and IntKind.u64 16 (IntKind.u64.wrap (-16)) * 285870213051353865) / 288230376151711744 = 15 := by decide +kernel
  go_enter Tryz.func120, Tryz.ntmps120
  go_wp2
  go_ret
  exact ⟨rfl, rfl⟩
theorem arr222 : Tryz.prog.arrayLen 222 = 65 := by kernel_rfl
theorem slice222 (b j : Nat) (hj : j < 65) (w : World) : (Instr.sliceAt 222 (.pointer (some ⟨b, 0, none⟩)) (some (.int .i64 (j : Nat))) none none).run Tryz.prog w = .ok (.slice (some ⟨b, j, none⟩) (65 - j) (65 - j)) w := by
  rw [run_sliceAt_array_l w 222 _ (by kernel_rfl) .i64 (j : Nat) (by omega) (by rw [arr222]; omega)]
  have hs : (sizeOf (Tryz.prog.elem 222)).run Tryz.prog w = .ok 1 w := by kernel_rfl
  rw [hs, arr222]
  simp only [Result.andThen, slicedAt, Int.toNat_natCast, Nat.mul_one]
  rw [if_neg (by omega)]
  simp [Addr.add]
  intro h
  exact h.symm
theorem conv_tail {w : World} {b j : Nat} {cs : List Value} {D : Bs} (h : Blk w b cs) (hl : cs.length = 65) (hd : cs.drop j = B8 D) : (convert 188 9 (.slice (some ⟨b, j, none⟩) (65 - j) (65 - j))).run Tryz.prog w = .ok (.string ⟨D.toArray⟩) w := by
  have hn : D.length = 65 - j := by
    have := congrArg List.length hd
    rw [List.length_drop, B8_length, hl] at this
    exact this.symm
  have := run_convert_bytes_back (P := Tryz.prog) w 188 9 5 ⟨b, j, none⟩ (65 - j) D Tryz.underlying188 (by kernel_rfl) Tryz.underlying9 (fun k hk => by
    rw [Addr.add_lit]
    refine h.cell (j + k) ?_
    rw [← List.getElem?_drop, hd]
    simp [B8, hk])
  rw [hn] at this
  exact this
set_option maxHeartbeats 4000000 in
set_option maxRecDepth 100000 in
theorem fmtBits {u : Nat} (hu : u < 18446744073709551616) {w : World} (hL : Lb w) :
    Calls Tryz.prog 110 #[.slice none 0 0, .int .u64 (u : Nat), .int .i64 16, .bool false, .bool false] w (fun e w' => e = .returned (.tuple #[.slice none 0 0, .string ⟨(hx u).toArray⟩]) ∧ Below w.heap.size w w') := by
  have hA := Blk.new w Tryz.zeroCells222 222
  have hB : Below w.heap.size w (w.alloc (.cells Tryz.zeroCells222 222)) := (Below.refl _ _).alloc (Nat.le_refl _) _
  have htz := (hL.below hB hL.size).tz
  have hlen : Tryz.zeroCells222.toList.length = 65 := by kernel_rfl
  have h64 : (16 : Nat) ^ 16 = 18446744073709551616 := by decide
  have H0 := Lib.hid (show HxRel u w (.int .u64 (u : Nat)) (.int .i64 (65 : Nat)) (w.alloc (.cells Tryz.zeroCells222 222)) from
    ⟨65, u, _, [], rfl, rfl, by omega, by omega, by show u < 16 ^ 16; omega, hA, hlen, by rw [List.drop_of_length_le (by omega)]; rfl, by simp, hB⟩)
  clear hL hA hlen h64
  go_enter Tryz.func110, Tryz.ntmps110
  go_upto_region 4 with (fail)
  have HB := Lib.hid hB
  clear hB
  generalize w.alloc (.cells Tryz.zeroCells222 222) = w1 at *
  go_wp2_with (first | (go_at_call 119; (with_reducible refine (pow16 _).mono ?_); rintro e x ⟨rfl, rfl⟩) | (go_at_call 120; (with_reducible refine (tz16 htz).mono ?_); rintro e x ⟨rfl, rfl⟩))
  clear htz
  go_loopw [1, 13] (fun t1 t13 wr => HxRel u w t1 t13 wr) (fun t1 _ _ => (intOf t1).toNat)
  case atStart => exact H0.out
  case round =>
    obtain ⟨i, v, cs, D, rfl, rfl, h1, h2, h3, hK, hl, hd, he, hb⟩ := hrel
    have hvb : v < 18446744073709551616 := by
      have : 16 ^ (i - 49) ≤ 16 ^ 16 := Nat.pow_le_pow_right (by omega) (by omega)
      omega
    obtain ⟨j, rfl⟩ : ∃ j, i = j + 1 := ⟨i - 1, by omega⟩
    have hjc : j < cs.length := by omega
    have cc := hK.cell j (List.getElem?_eq_getElem hjc)
    have cf := hK.free j hjc
    have hset := hK.set (j := j) (.int .u8 ((hexD.getD (v % 16) 0).toNat : Nat))
    have hds := drop_set_last (cs := cs) (v := .int .u8 ((hexD.getD (v % 16) 0).toNat : Nat)) hjc
    rw [hd] at hds
    have hbs : Below w.heap.size w (wr.setCell ⟨w.heap.size, j, none⟩ (.int .u8 ((hexD.getD (v % 16) 0).toNat : Nat))) := hb.setCell (p := ⟨w.heap.size, j, none⟩) (Nat.le_refl _) _
    have HSET := Lib.hid hset
    have HDS := Lib.hid (And.intro hds he)
    have HBS := Lib.hid hbs
    have HL := Lib.hid hl
    have H3 := Lib.hid h3
    have hd1 := digAt (v % 16)
    clear hK hd he hb hl h3 H0 hset hds hbs
    by_cases hv : v < 16
    · have hm : v % 16 = v := Nat.mod_eq_of_lt hv
      rw [hm] at HSET HDS HBS hd1
      have hsl := slice222 w.heap.size j (by omega)
      have hcv := conv_tail HSET.out (by rw [List.length_set]; exact HL.out) (show _ = B8 (hexD.getD v 0 :: D) from HDS.out.1)
      have hhx : hx u = hexD.getD v 0 :: D := by rw [HDS.out.2, hx_small hv]; rfl
      have HHX := Lib.hid hhx
      have hlt : v < (⟨#[48, 49, 50, 51, 52, 53, 54, 55, 56, 57, 97, 98, 99, 100, 101, 102, 103, 104, 105, 106, 107, 108, 109, 110, 111, 112, 113, 114, 115, 116, 117, 118, 119, 120, 121, 122]⟩ : ByteArray).size := by show v < 36; omega
      have hd2 := hd1 hlt hv
      rw [← hd2] at hcv
      have HD2 := Lib.hid hd2
      clear HSET HDS hhx hd1 hd2
      go_wp2_with fail
      go_ret2
      exact ⟨by rw [HHX.out, HD2.out]; rfl, by rw [HD2.out]; exact HBS.out⟩
    · have hai := and15 hvb
      go_wp2_with fail
      have hlt : v % 16 < (⟨#[48, 49, 50, 51, 52, 53, 54, 55, 56, 57, 97, 98, 99, 100, 101, 102, 103, 104, 105, 106, 107, 108, 109, 110, 111, 112, 113, 114, 115, 116, 117, 118, 119, 120, 121, 122]⟩ : ByteArray).size := by show v % 16 < 36; omega
      have hd2 := hd1 hlt (Nat.mod_lt _ (by omega))
      go_roundw
      case rel =>
        refine ⟨j, v / 16, _, hexD.getD (v % 16) 0 :: D, by go_num, rfl, ?_, by omega, ?_, by rw [hd2]; exact HSET.out, by rw [List.length_set]; exact HL.out, HDS.out.1, ?_, by rw [hd2]; exact HBS.out⟩
        · have h3 := H3.out
          by_cases h50 : j < 50
          · have : j + 1 - 49 ≤ 1 := by omega
            have : 16 ^ (j + 1 - 49) ≤ 16 ^ 1 := Nat.pow_le_pow_right (by omega) this
            omega
          · omega
        · have h3 := H3.out
          by_cases h50 : j < 50
          · have : j + 1 - 49 ≤ 1 := by omega
            have : 16 ^ (j + 1 - 49) ≤ 16 ^ 1 := Nat.pow_le_pow_right (by omega) this
            omega
          · rw [show j + 1 - 49 = (j - 49) + 1 by omega, Nat.pow_succ] at h3
            omega
        · rw [HDS.out.2, hx_big hv]; simp
      case measure => simp [intOf]; omega
theorem fmtU76 {u : Nat} (hu : u < 18446744073709551616) {w : World} (hL : Lb w) :
    Calls Tryz.prog 175 #[.int .u64 (u : Nat), .int .i64 16] w (fun e w' => e = .returned (.string ⟨(hx u).toArray⟩) ∧ Below w.heap.size w w') := by
  have HC := Lib.hid (fmtBits hu hL)
  clear hL
  go_enter Tryz.func175, Tryz.ntmps175
  go_wp2_with (go_at_call 110; (with_reducible refine HC.out.mono ?_); rintro e w1 ⟨rfl, hb⟩)
  go_ret
  exact ⟨rfl, hb⟩
theorem fmtU {u : Nat} (hu : u < 18446744073709551616) {w : World} (hL : Lb w) :
    Calls Tryz.prog 169 #[.int .u64 (u : Nat), .int .i64 16] w (fun e w' => e = .returned (.string ⟨(hx u).toArray⟩) ∧ Below w.heap.size w w') := by
  have HC := Lib.hid (fmtU76 hu hL)
  clear hL
  go_enter Tryz.func169, Tryz.ntmps169
  go_wp2_with (go_at_call 175; (with_reducible refine HC.out.mono ?_); rintro e w1 ⟨rfl, hb⟩)
  go_ret
  exact ⟨rfl, hb⟩
end Go.Proofs.YtbldidiibkcelaaGreatDoor


/-
  put (walks). Not a statement of the seat.
-/
namespace Go.Proofs.YtbldidiibkcelaaGreatDoor
open Go.RowKit

/-- the numbers of all nodes in range -/
def Fo.plain : Fo → Prop
  | .nil => True
  | .cons _ i b _ kids rest => ((0 ≤ b ∧ b < 18446744073709551616) ∧ -9223372036854775808 ≤ i ∧ i ≤ 9223372036854775807) ∧ kids.plain ∧ rest.plain
/-- how long a text may be -/
def Fo.wt : Fo → Nat
  | .nil => 0
  | .cons _ _ _ t kids rest => 4 * t.length + 110 + kids.wt + rest.wt
theorem decF_len : ∀ f u, (decF f u).length ≤ f
  | 0, _ => by simp [decF]
  | f + 1, u => by
    have := decF_len f (u / 10)
    unfold decF
    split <;> simp <;> omega
theorem dec_len (n : Int) : (dec n).length ≤ 21 := by
  unfold dec
  have h1 := decF_len 20 n.natAbs
  have h2 := decF_len 20 n.toNat
  split <;> (try simp only [List.length_cons]) <;> omega
theorem hexN_len : ∀ n b, (hexN n b).length = n
  | 0, _ => rfl
  | n + 1, b => by simp [hexN, hexN_len n]
theorem quoteM_len (t : Bs) : (quoteM t).length ≤ 4 * t.length + 2 := by
  have := quote_len t
  simp only [quoteM, List.length_cons, List.length_append, List.length_nil]
  omega
theorem ite_len {p : Prop} [Decidable p] {a b : Bs} {n : Nat} (ha : a.length ≤ n) (hb : b.length ≤ n) : (if p then a else b).length ≤ n := by split <;> assumption
theorem oneM_len (k i b : Int) (t kids : Bs) : (oneM k i b t kids).length ≤ 4 * t.length + 90 + kids.length := by
  have h1 := dec_len i
  have h2 := quoteM_len t
  have h3 := hexN_len 16 b.toNat
  have h4 := pairs_len t
  unfold oneM
  repeat' (with_reducible refine ite_len ?_ ?_)
  all_goals (try simp only [List.length_cons, List.length_append, List.length_nil])
  all_goals omega
theorem rowP_len : ∀ (f : Fo) (fst : Bool), (rowP fst f).length ≤ f.wt
  | .nil, _ => by simp [rowP]
  | .cons k i b t kids rest, fst => by
    have h1 := rowP_len kids true
    have h2 := rowP_len rest false
    have h3 := oneM_len k i b t (rowP true kids)
    have h4 : (if fst then ([] : Bs) else [44, 32]).length ≤ 2 := by cases fst <;> simp
    simp only [rowP, Fo.wt, List.length_append]
    omega
theorem rowP_snoc : ∀ (f : Fo) (fst : Bool) (k i b : Int) (t : Bs) (ks : Fo), rowP fst (f.app (.cons k i b t ks .nil)) = rowP fst f ++ ((if fst && f.len == 0 then [] else [44, 32]) ++ oneM k i b t (rowP true ks))
  | .nil, fst, k, i, b, t, ks => by cases fst <;> simp [Fo.app, rowP, Fo.len]
  | .cons k1 i1 b1 t1 ks1 rest, fst, k, i, b, t, ks => by
    rw [Fo.app, rowP, rowP_snoc rest false, rowP]
    simp [Fo.len, List.append_assoc]
theorem wt_app : ∀ (f g : Fo), (f.app g).wt = f.wt + g.wt
  | .nil, g => by simp [Fo.app, Fo.wt]
  | .cons _ _ _ _ _ r, g => by simp only [Fo.app, Fo.wt, wt_app r g]; omega
theorem plain_app : ∀ (f : Fo) {g : Fo}, (f.app g).plain → g.plain
  | .nil, _, h => h
  | .cons _ _ _ _ _ r, _, h => plain_app r h.2.2
def PutP (B bb : Nat) (acc : Bs) (w : World) (e : Ending) (w' : World) : Prop := e = .returned (.tuple #[]) ∧ Bd B bb acc w' ∧ Kb B bb w w'
/-- put of a value with these children -/
def PutOK (kids : Fo) : Prop := ∀ (k i b : Int) (t : Bs) (l : Option Addr) (n c : Nat) (S : Nat → Prop) (B bb : Nat) (acc : Bs) (w : World), FoAt S w kids l n c → (∀ x, S x → x < B) → Bd B bb acc w → B ≤ bb → bb < w.heap.size → Lb w → 7 ≤ B →
  ((0 ≤ b ∧ b < 18446744073709551616) ∧ -9223372036854775808 ≤ i ∧ i ≤ 9223372036854775807) → kids.plain → acc.length + 4 * t.length + 100 + kids.wt ≤ big →
  Calls Tryz.prog 166 #[.pointer (some ⟨bb, 0, none⟩), .agg #[.int .i64 k, .int .i64 i, .int .u64 b, .string ⟨t.toArray⟩, .slice l n c]] w (PutP B bb (acc ++ oneM k i b t (rowP true kids)) w)
def PRel (kids : Fo) (B bb pb db : Nat) (vs : List Value) (acc : Bs) (w : World) (t14 : Value) (wr : World) : Prop :=
  ∃ (dn rest : Fo), t14 = .int .i64 (dn.len : Nat) ∧ kids = dn.app rest ∧ (Bd B bb (acc ++ rowP true dn) wr ∧ Kb B bb w wr) ∧ TB wr pb [.pointer (some ⟨bb, 0, none⟩)] ∧ TB wr db vs
set_option maxHeartbeats 8000000 in
set_option maxRecDepth 100000 in
theorem putRow {kids : Fo} (hall : kids.All PutOK) {k i b : Int} {t : Bs} {l : Option Addr} {n c : Nat} {S : Nat → Prop} {B bb pb db : Nat} {acc : Bs} {o e : ByteArray} {w : World} (hF : FoAt S w kids l n c) (hS : ∀ x, S x → x < B) (hB : Bd B bb acc w) (hBb : B ≤ bb) (hbw : bb < w.heap.size)
    (hL : Lb w) (h7 : 7 ≤ B) (hp : TB w pb [.pointer (some ⟨bb, 0, none⟩)]) (hd : TB w db [.int .i64 k, .int .i64 i, .int .u64 b, .string ⟨t.toArray⟩, .slice l n c]) (hpb : pb ≠ bb) (hdb : db ≠ bb) (hpl : kids.plain) (hbig : acc.length + o.size + kids.wt + e.size ≤ big) :
    Calls Tryz.prog 167 #[.string o, .string e, .pointer (some ⟨pb, 0, none⟩), .pointer (some ⟨db, 0, none⟩)] w (PutP B bb (acc ++ o.data.toList ++ rowP true kids ++ e.data.toList) w) := by
  have hlen := hF.len
  have cp := hp.1.cell 0 rfl
  have HC := Lib.hid (writeS (s := o) hB (by unfold big at *; omega))
  have HF := Lib.hid hF
  have HP := Lib.hid hp
  have HD := Lib.hid hd
  have HL := Lib.hid hL
  have HLEN := Lib.hid hlen
  have HALL := Lib.hid hall
  have HPL := Lib.hid hpl
  have HBIG := Lib.hid hbig
  have HSB := Lib.hid hS
  clear hF hB hL hp hd hlen hall hpl hbig hS
  go_enter Tryz.func167, Tryz.ntmps167
  go_upto_region 1 with (first
    | (go_at_call 157; (with_reducible refine HC.out.mono ?_); rintro e1 w1 ⟨rfl, hBx, hKx⟩; have HB1 := Lib.hid hBx; have HK1 := Lib.hid hKx; have d4 := (HD.out.kb hKx hdb).1.cell 4 rfl; clear hBx hKx))
  have H0 := Lib.hid (show PRel kids B bb pb db [.int .i64 k, .int .i64 i, .int .u64 b, .string ⟨t.toArray⟩, .slice l n c] (acc ++ o.data.toList) w (.int .i64 0) w1 from ⟨.nil, kids, rfl, rfl, ⟨by simpa [rowP] using HB1.out, HK1.out⟩, HP.out.kb HK1.out hpb, HD.out.kb HK1.out hdb⟩)
  clear HC HB1 HK1 cp
  go_wp2_with fail
  go_loopw [14] (fun t14 wr => PRel kids B bb pb db [.int .i64 k, .int .i64 i, .int .u64 b, .string ⟨t.toArray⟩, .slice l n c] (acc ++ o.data.toList) w t14 wr) (fun t14 _ => n - (intOf t14).toNat)
  case atStart => exact H0.out
  case round =>
    obtain ⟨dn, rest, rfl, hk, ⟨hB, hK⟩, hp, hd⟩ := hrel
    have cp := hp.1.cell 0 rfl
    have hlen := HLEN.out
    rw [hk, Fo.len_app] at hlen
    have HB := Lib.hid hB
    have HK := Lib.hid hK
    have HP1 := Lib.hid hp
    have HD1 := Lib.hid hd
    have hwt := wt_app dn rest
    have hrl := rowP_len dn true
    clear hB hK hp hd H0 d4
    cases rest with
    | nil =>
      have hj : ¬ (dn.len : Int) < (n : Int) := by have : Fo.len .nil = 0 := rfl; omega
      have hke : kids = dn := by rw [hk, Fo.app_nil]
      have HC := Lib.hid (writeS (s := e) HB.out (by have := HBIG.out; rw [hke] at this; rw [List.length_append, List.length_append, ← Lib.size_eq]; unfold big at *; omega))
      have HKE := Lib.hid hke
      clear hk hlen hwt hrl hke
      go_wp2_with (go_at_call 157; (with_reducible refine HC.out.mono ?_); rintro e2 w2 ⟨rfl, hB2, hK2⟩)
      go_end0
      rw [HKE.out]
      exact ⟨rfl, hB2, HK.out.trans hK2⟩
    | cons k2 i2 b2 t2 ks rest2 =>
      have hlr : (Fo.cons k2 i2 b2 t2 ks rest2).len = rest2.len + 1 := rfl
      have hjn : dn.len < n := by omega
      have hj : (dn.len : Int) < (n : Int) := by omega
      have hFr : FoAt S wr kids l n c := HF.out.same (fun x hx hlt => HK.out.below.block x (HSB.out x hx)) (fun x hx _ => hx)
      obtain ⟨cs, ⟨hRd, hSx⟩, hAt⟩ := hFr
      have hHead := hRd.at (k := dn.len) hjn
      have hnb : n ≤ 9223372036854775807 := by have h1 := hRd.le; have h2 := hRd.max; unfold maxLen at h2; omega
      rw [hk] at hAt
      obtain ⟨cs1, cs2, rfl, hA1, hA2⟩ := At.split dn hAt
      have hl1 := At.len dn hA1
      obtain ⟨a2, n2, cap2, ks2, cs', rfl, hKid, hKidAt, _⟩ := hA2
      obtain ⟨bb2, off, rfl, hlt, hc⟩ := hHead
      have hcell : ∀ i, i < 5 → wr.cell? ⟨bb2, off + dn.len * 5 + i, none⟩ = [Value.int .i64 k2, .int .i64 i2, .int .u64 b2, .string ⟨t2.toArray⟩, .slice a2 n2 cap2][i]? := fun i hi => by
        rw [hc i hi, List.getElem?_append_right (by omega), hl1, Nat.add_sub_cancel_left]
        match i, hi with
        | 0, _ => rfl
        | 1, _ => rfl
        | 2, _ => rfl
        | 3, _ => rfl
        | 4, _ => rfl
      have hkF : FoAt S wr ks a2 n2 cap2 := ⟨ks2, hKid, hKidAt⟩
      have e0 := hcell 0 (by omega)
      have e1 := hcell 1 (by omega)
      have e2 := hcell 2 (by omega)
      have e3 := hcell 3 (by omega)
      have e4 := hcell 4 (by omega)
      simp only [List.getElem?_cons_zero, List.getElem?_cons_succ, Nat.add_zero] at e0 e1 e2 e3 e4
      have hPOK : PutOK ks := by
        have hal := HALL.out
        rw [hk] at hal
        exact (Fo.All.split dn hal).1
      have hpls := HPL.out
      rw [hk] at hpls
      have hpl2 := plain_app dn hpls
      have HPL2 := Lib.hid (show _ ∧ ks.plain from ⟨hpl2.1, hpl2.2.1⟩)
      have hw2 : kids.wt = dn.wt + (4 * t2.length + 110 + ks.wt + rest2.wt) := by rw [hk]; exact hwt
      have HW := Lib.hid (show acc.length + o.size + (rowP true dn).length + 4 * t2.length + 110 + ks.wt ≤ big by have := HBIG.out; omega)
      have HKF := Lib.hid hkF
      have HPOK := Lib.hid hPOK
      have HKK := Lib.hid hk
      have HJ := Lib.hid hjn
      clear hkF hPOK hk hcell hc hRd hSx hAt hA1 hKid hKidAt hl1 hlen hlr hlt hjn hpls hpl2 hw2 hwt hrl
      have hsn := rowP_snoc dn true k2 i2 b2 t2 ks
      have HSN := Lib.hid hsn
      clear hsn
      have hab : Below wr.heap.size wr (wr.alloc (.cells #[.int .i64 k2, .int .i64 i2, .int .u64 b2, .string ⟨t2.toArray⟩, .slice a2 n2 cap2] 25)) := (Below.refl _ _).alloc (Nat.le_refl _) _
      have HAB := Lib.hid hab
      have cpa := (HP1.out.below hab).1.cell 0 rfl
      have hos := Lib.size_eq o
      have HOS := Lib.hid hos
      clear hab hos
      by_cases hj0 : dn.len = 0
      · have hz : ¬ (0 : Int) < (dn.len : Int) := by omega
        have hsn := HSN.out
        rw [hj0] at hsn
        simp only [Bool.true_and, beq_self_eq_true, if_true, List.nil_append] at hsn
        have HC := Lib.hid (HPOK.out k2 i2 b2 t2 a2 n2 cap2 S B bb (acc ++ o.data.toList ++ rowP true dn) (wr.alloc (.cells #[.int .i64 k2, .int .i64 i2, .int .u64 b2, .string ⟨t2.toArray⟩, .slice a2 n2 cap2] 25))
          (HKF.out.same (fun x hx hlt => HAB.out.block x hlt) (fun x hx _ => hx)) HSB.out (HB.out.calm HAB.out) hBb (Nat.lt_of_lt_of_le hbw (Nat.le_trans HK.out.below.size HAB.out.size)) ((HL.out.below HK.out.below h7).below HAB.out (Nat.le_trans h7 HB.out.le)) h7 HPL2.out.1 HPL2.out.2 (by rw [List.length_append, List.length_append, ← HOS.out]; have := HW.out; omega))
        have HSN2 := Lib.hid hsn
        have HJ0 := Lib.hid hj0
        generalize hjj : dn.len = j at *
        have HJJ := Lib.hid hjj
        clear hsn HSN hj0 hjj
        go_wp2_with (go_at_call 166; (with_reducible refine HC.out.mono ?_); rintro e5 w5 ⟨rfl, hB5, hK5⟩)
        go_roundw
        case rel =>
          have hKz : Kb B bb wr w5 := (Kb.calm (Kb.refl _ _ _) HB.out.le HAB.out).trans hK5
          refine ⟨dn.app (.cons k2 i2 b2 t2 ks .nil), rest2, ?_, ?_, ⟨?_, HK.out.trans hKz⟩, HP1.out.kb hKz hpb, HD1.out.kb hKz hdb⟩
          · rw [Fo.len_app, HJJ.out, show (Fo.cons k2 i2 b2 t2 ks .nil).len = 1 from rfl]; go_num
          · rw [Fo.app_assoc]; exact HKK.out
          · rw [HSN2.out, ← List.append_assoc]; exact hB5
        case measure => simp [intOf]; have := HJ.out; omega
      · have hz : (0 : Int) < (dn.len : Int) := by omega
        have hsn := HSN.out
        simp only [Bool.true_and, beq_iff_eq, if_neg hj0] at hsn
        have HC1 := Lib.hid (writeS (s := ⟨#[44, 32]⟩) (HB.out.calm HAB.out) (by rw [List.length_append, List.length_append, ← HOS.out]; show _ + 2 ≤ big; have := HW.out; omega))
        have HSN2 := Lib.hid hsn
        generalize hjj : dn.len = j at *
        have HJJ := Lib.hid hjj
        clear hsn HSN hj0 hjj
        go_wp2_with (first
          | (go_at_call 157; (with_reducible refine HC1.out.mono ?_); rintro e5 w5 ⟨rfl, hB5, hK5⟩
             have HB5 := Lib.hid hB5
             have HK5 := Lib.hid ((Kb.calm (Kb.refl B bb wr) HB.out.le HAB.out).trans hK5)
             have cp5 := (HP1.out.kb HK5.out hpb).1.cell 0 rfl
             have hx5 := TB.kb (TB.new wr #[.int .i64 k2, .int .i64 i2, .int .u64 b2, .string ⟨t2.toArray⟩, .slice a2 n2 cap2] 25 (by decide)) hK5 (by have := HK.out.below.size; omega)
             have x0 := hx5.1.cell 0 rfl; have x1 := hx5.1.cell 1 rfl; have x2 := hx5.1.cell 2 rfl; have x3 := hx5.1.cell 3 rfl; have x4 := hx5.1.cell 4 rfl
             have HC := Lib.hid (HPOK.out k2 i2 b2 t2 a2 n2 cap2 S B bb _ w5 (HKF.out.same (fun x hx hlt => HK5.out.below.block x (HSB.out x hx)) (fun x hx _ => hx)) HSB.out HB5.out hBb (Nat.lt_of_lt_of_le hbw (Nat.le_trans HK.out.below.size HK5.out.below.size))
               ((HL.out.below HK.out.below h7).below HK5.out.below h7) h7 HPL2.out.1 HPL2.out.2 (by rw [List.length_append, List.length_append, List.length_append, ← HOS.out]; show _ + 2 + _ + _ + _ ≤ big; have := HW.out; omega))
             clear hB5 hK5 hx5)
          | (go_at_call 166; (with_reducible refine HC.out.mono ?_); rintro e6 w6 ⟨rfl, hB6, hK6⟩))
        go_roundw
        case rel =>
          have hKz : Kb B bb wr w6 := HK5.out.trans hK6
          refine ⟨dn.app (.cons k2 i2 b2 t2 ks .nil), rest2, ?_, ?_, ⟨?_, HK.out.trans hKz⟩, HP1.out.kb hKz hpb, HD1.out.kb hKz hdb⟩
          · rw [Fo.len_app, HJJ.out, show (Fo.cons k2 i2 b2 t2 ks .nil).len = 1 from rfl]; go_num
          · rw [Fo.app_assoc]; exact HKK.out
          · rw [HSN2.out, ← List.append_assoc, ← List.append_assoc]; exact hB6
        case measure => simp [intOf]; have := HJ.out; omega
set_option maxHeartbeats 16000000 in
set_option maxRecDepth 100000 in
theorem putN {kids : Fo} (hall : kids.All PutOK) : PutOK kids := by
  intro k i b t l n c S B bb acc w hF hS hB hBb hbw hL h7 hr hpl hbig
  have hmf : ∀ (fn : Fn) (first cap : Array Value) (w : World), (Instr.makeFunc fn first cap).run Tryz.prog w = .ok (.func fn first cap) w := fun _ _ _ _ => rfl
  have hBw := hB.le
  have ha1 : Below w.heap.size w (w.alloc (.cells #[.pointer (some ⟨bb, 0, none⟩)] 246)) := (Below.refl _ _).alloc (Nat.le_refl _) _
  have hp := (TB.new w #[.pointer (some ⟨bb, 0, none⟩)] 246 (by decide)).below ((Below.refl _ _).alloc (Nat.le_refl _) (.cells #[.int .i64 k, .int .i64 i, .int .u64 b, .string ⟨t.toArray⟩, .slice l n c] 25))
  have hd := TB.new (w.alloc (.cells #[.pointer (some ⟨bb, 0, none⟩)] 246)) #[.int .i64 k, .int .i64 i, .int .u64 b, .string ⟨t.toArray⟩, .slice l n c] 25 (by decide)
  have ha2 : Below w.heap.size w ((w.alloc (.cells #[.pointer (some ⟨bb, 0, none⟩)] 246)).alloc (.cells #[.int .i64 k, .int .i64 i, .int .u64 b, .string ⟨t.toArray⟩, .slice l n c] 25)) := ha1.alloc (by simp) _
  have hs1 : (w.alloc (.cells #[.pointer (some ⟨bb, 0, none⟩)] 246)).heap.size = w.heap.size + 1 := by simp
  rw [hs1] at hd
  go_enter Tryz.func166, Tryz.ntmps166
  go_upto_region 2 with (fail)
  generalize (w.alloc (.cells #[.pointer (some ⟨bb, 0, none⟩)] 246)).alloc (.cells #[.int .i64 k, .int .i64 i, .int .u64 b, .string ⟨t.toArray⟩, .slice l n c] 25) = w2 at *
  have HB2 := Lib.hid (hB.calm ha2)
  have HL2 := Lib.hid (hL.below ha2 (Nat.le_trans h7 hBw))
  have HKW := Lib.hid (Kb.calm (Kb.refl B bb w) hBw ha2)
  have hpb : w.heap.size ≠ bb := by omega
  have hdb : w.heap.size + 1 ≠ bb := by omega
  obtain ⟨pb, hpbe⟩ : ∃ pb, pb = w.heap.size := ⟨_, rfl⟩
  obtain ⟨db, hdbe⟩ : ∃ db, db = w.heap.size + 1 := ⟨_, rfl⟩
  rw [← hpbe] at hp hpb
  rw [← hdbe] at hd hdb
  rw [← hpbe] at hdbe
  rw [← hpbe, ← hdbe]
  have HPD := Lib.hid (And.intro hpbe hdbe)
  clear hpbe hdbe hs1
  have HF := Lib.hid hF
  have HR := Lib.hid hr.2
  have HP := Lib.hid hp
  have HD := Lib.hid hd
  have HKEEP := Lib.hid (show ∀ wx, Below w2.heap.size w2 wx → wx.cell? ⟨pb, 0, none⟩ = some (.pointer (some ⟨bb, 0, none⟩)) ∧ wx.cell? ⟨db, 1, none⟩ = some (.int .i64 i) ∧ wx.cell? ⟨db, 3, none⟩ = some (.string ⟨t.toArray⟩) from
    fun wx hx => ⟨(hp.below hx).1.cell 0 rfl, (hd.below hx).1.cell 1 rfl, (hd.below hx).1.cell 3 rfl⟩)
  have cp := hp.1.cell 0 rfl
  have d0 := hd.1.cell 0 rfl
  have d1 := hd.1.cell 1 rfl
  have d2 := hd.1.cell 2 rfl
  have d3 := hd.1.cell 3 rfl
  have hb9 := hr.1
  have hdl := dec_len i
  have hng1 : ¬ 9223372036854775807 < 1 + (dec i).length := by omega
  have hpl9 : (pairsM t).length ≤ 140737488355328 := by have := pairs_len t; unfold big at hbig; omega
  have hng2 : ¬ 9223372036854775807 < 1 + (pairsM t).length := by omega
  clear hF hB hL hp hd hr ha1 ha2
  by_cases hk : k = 0
  · subst hk
    have HC := Lib.hid (writeS (s := ⟨#[110, 105, 108]⟩) HB2.out (by show _ + 3 ≤ big; omega))
    go_wp2_with (go_at_call 157; (with_reducible refine HC.out.mono ?_); rintro e3 w3 ⟨rfl, hB3, hK3⟩)
    go_end0
    exact ⟨rfl, by have hfin := hB3; exact hfin, HKW.out.trans hK3⟩
  by_cases hk : k = 1
  · subst hk
    have HIN := Lib.hid (show ∀ wx, Below w2.heap.size w2 wx → Calls Tryz.prog 168 #[.int .i64 i] wx (fun e w' => e = .returned (.string ⟨(dec i).toArray⟩) ∧ Below wx.heap.size wx w') from fun wx hx => decimalN HR.out.1 HR.out.2 (HL2.out.below hx (Nat.le_trans h7 HB2.out.le)))
    have HWS := Lib.hid (show ∀ wx, Below w2.heap.size w2 wx → Calls Tryz.prog 157 #[.pointer (some ⟨bb, 0, none⟩), .string ⟨(dec i).toArray⟩] wx (fun e w' => e = .returned (.tuple #[.int .i64 (⟨(dec i).toArray⟩ : ByteArray).size, .nilIface]) ∧ Bd B bb (acc ++ dec i) w' ∧ Kb B bb wx w') from fun wx hx => by
      have h := writeS (s := ⟨(dec i).toArray⟩) (HB2.out.calm hx) (by rw [Lib.size_eq, show (⟨(dec i).toArray⟩ : ByteArray).data.toList = dec i from rfl]; omega)
      rw [show (⟨(dec i).toArray⟩ : ByteArray).data.toList = dec i from rfl] at h
      exact h)
    go_wp2_with fail
    go_region_held3 (fun wx : World => wx.cell? ⟨pb, 0, none⟩ = some (.pointer (some ⟨bb, 0, none⟩)) ∧ wx.cell? ⟨db, 1, none⟩ = some (.int .i64 i) ∧ wx.cell? ⟨db, 3, none⟩ = some (.string ⟨t.toArray⟩))
      (first | exact HKEEP.out _ (Below.refl _ _) | exact HKEEP.out _ (Below.refl _ _).drew | exact HKEEP.out _ HBA.out | exact HKB.out)
      (first
        | (go_simp; go_at_call 168; refine (HIN.out _ (Below.refl _ _).drew).mono ?_; rintro eA wA ⟨rfl, hbA⟩; have HBA := Lib.hid ((Below.refl w2.heap.size w2).drew.trans hbA); clear hbA)
        | (go_simp; go_at_call 157; refine (HWS.out _ HBA.out).mono ?_; rintro eB wB ⟨rfl, hBB, hKK⟩; have HBB := Lib.hid hBB; have HKK := Lib.hid ((Kb.calm (Kb.refl B bb w2) HB2.out.le HBA.out).trans hKK)
           have HKB := Lib.hid (And.intro ((HP.out.kb HKK.out hpb).1.cell 0 rfl) (And.intro ((HD.out.kb HKK.out hdb).1.cell 1 rfl) ((HD.out.kb HKK.out hdb).1.cell 3 rfl)))
           clear hBB hKK))
    all_goals
      go_wp2_with fail
      go_end0
      exact ⟨rfl, by have hfin := HBB.out; exact hfin, HKW.out.trans HKK.out⟩
  by_cases hk : k = 2
  · subst hk
    have HIN := Lib.hid (show ∀ wx, Below w2.heap.size w2 wx → Calls Tryz.prog 168 #[.int .i64 i] wx (fun e w' => e = .returned (.string ⟨(dec i).toArray⟩) ∧ Below wx.heap.size wx w') from fun wx hx => decimalN HR.out.1 HR.out.2 (HL2.out.below hx (Nat.le_trans h7 HB2.out.le)))
    have HWS := Lib.hid (show ∀ wx, Below w2.heap.size w2 wx → Calls Tryz.prog 157 #[.pointer (some ⟨bb, 0, none⟩), .string (⟨#[35]⟩ ++ ⟨(dec i).toArray⟩)] wx (fun e w' => e = .returned (.tuple #[.int .i64 ((⟨#[35]⟩ ++ ⟨(dec i).toArray⟩) : ByteArray).size, .nilIface]) ∧ Bd B bb (acc ++ (35 :: dec i)) w' ∧ Kb B bb wx w') from fun wx hx => by
      have h := writeS (s := (⟨#[35]⟩ ++ ⟨(dec i).toArray⟩)) (HB2.out.calm hx) (by rw [Lib.size_eq, show ((⟨#[35]⟩ ++ ⟨(dec i).toArray⟩) : ByteArray).data.toList = (35 :: dec i) from by rw [ByteArray.data_append, Array.toList_append]; rfl]; simp only [List.length_cons]; omega)
      rw [show ((⟨#[35]⟩ ++ ⟨(dec i).toArray⟩) : ByteArray).data.toList = (35 :: dec i) from by rw [ByteArray.data_append, Array.toList_append]; rfl] at h
      exact h)
    go_wp2_with fail
    go_region_held3 (fun wx : World => wx.cell? ⟨pb, 0, none⟩ = some (.pointer (some ⟨bb, 0, none⟩)) ∧ wx.cell? ⟨db, 1, none⟩ = some (.int .i64 i) ∧ wx.cell? ⟨db, 3, none⟩ = some (.string ⟨t.toArray⟩))
      (first | exact HKEEP.out _ (Below.refl _ _) | exact HKEEP.out _ (Below.refl _ _).drew | exact HKEEP.out _ HBA.out | exact HKB.out)
      (first
        | (go_simp; go_at_call 168; refine (HIN.out _ (Below.refl _ _).drew).mono ?_; rintro eA wA ⟨rfl, hbA⟩; have HBA := Lib.hid ((Below.refl w2.heap.size w2).drew.trans hbA); clear hbA)
        | (go_simp; go_at_call 157; refine (HWS.out _ HBA.out).mono ?_; rintro eB wB ⟨rfl, hBB, hKK⟩; have HBB := Lib.hid hBB; have HKK := Lib.hid ((Kb.calm (Kb.refl B bb w2) HB2.out.le HBA.out).trans hKK)
           have HKB := Lib.hid (And.intro ((HP.out.kb HKK.out hpb).1.cell 0 rfl) (And.intro ((HD.out.kb HKK.out hdb).1.cell 1 rfl) ((HD.out.kb HKK.out hdb).1.cell 3 rfl)))
           clear hBB hKK))
    all_goals
      go_wp2_with fail
      go_end0
      exact ⟨rfl, by have hfin := HBB.out; exact hfin, HKW.out.trans HKK.out⟩
  by_cases hk : k = 3
  · subst hk
    obtain ⟨u, rfl⟩ : ∃ u : Nat, b = (u : Int) := ⟨b.toNat, by omega⟩
    have hu : u < 18446744073709551616 := by omega
    have h64 : (16 : Nat) ^ (15 + 1) = 18446744073709551616 := by decide
    have hu16 : u < 16 ^ (15 + 1) := by omega
    have hxl := hx_len 15 u hu16
    have hone : oneM 3 i u t (rowP true kids) = 102 :: (List.replicate (16 - (hx u).length) 48 ++ hx u) := by
      rw [show 16 - (hx u).length = 15 + 1 - (hx u).length from rfl, hx_pad 15 u hu16]
      rfl
    have HONE := Lib.hid hone
    have HF1 := Lib.hid (fmtU hu HL2.out)
    clear hone hu16 h64
    generalize hx u = hs at *
    have hrl : List.replicate (16 - hs.length) (48 : UInt8) = Lib.repeatL [48] (16 - hs.length) := by
      generalize 16 - hs.length = m
      induction m with
      | zero => rfl
      | succ m ih => rw [List.replicate_succ, ih]; rfl
    have hrn : (List.replicate (16 - hs.length) (48 : UInt8)).length = 16 - hs.length := by simp
    have hsub : IntKind.i64.wrap (16 - (hs.length : Int)) = ((16 - hs.length : Nat) : Int) := by rw [wrapI (by omega) (by omega)]; omega
    go_wp2_with (go_at_call 169; (with_reducible refine HF1.out.mono ?_); rintro e3 w3 ⟨rfl, hb3⟩; have HB3 := Lib.hid hb3; clear hb3)
    have HKEEP3 := Lib.hid (show ∀ wx, Below w3.heap.size w3 wx → wx.cell? ⟨pb, 0, none⟩ = some (.pointer (some ⟨bb, 0, none⟩)) from fun wx hx => ((HP.out.below HB3.out).below hx).1.cell 0 rfl)
    have cp3 := HKEEP3.out _ (Below.refl _ _)
    have HRP := Lib.hid (show ∀ wx, Below w3.heap.size w3 wx → Calls Tryz.prog 170 #[.string ⟨#[48]⟩, .int .i64 ((16 - hs.length : Nat) : Int)] wx (fun e w' => e = .returned (.string ⟨(List.replicate (16 - hs.length) (48 : UInt8)).toArray⟩) ∧ Below wx.heap.size wx w') from fun wx hx => by
      have h := Tryz.strings_Repeat ⟨#[48]⟩ (16 - hs.length) wx (by omega) (by show 1 * _ ≤ _; omega)
      rw [hrl]
      exact h)
    generalize hrr : List.replicate (16 - hs.length) (48 : UInt8) = rs at *
    have HWS := Lib.hid (show ∀ wx, Below w3.heap.size w3 wx → Calls Tryz.prog 157 #[.pointer (some ⟨bb, 0, none⟩), .string (⟨#[102]⟩ ++ ⟨rs.toArray⟩ ++ ⟨hs.toArray⟩)] wx (fun e w' => (∃ v, e = .returned v) ∧ Bd B bb (acc ++ 102 :: (rs ++ hs)) w' ∧ Kb B bb wx w') from fun wx hx => by
      have h := writeS (s := ⟨#[102]⟩ ++ ⟨rs.toArray⟩ ++ ⟨hs.toArray⟩) ((HB2.out.calm HB3.out).calm hx) (by rw [Lib.size_eq]; simp only [ByteArray.data_append, Array.toList_append, List.length_append]; show _ + (1 + rs.length + hs.length) ≤ big; omega)
      refine h.mono ?_
      rintro e w' ⟨rfl, h1, h2⟩
      refine ⟨⟨_, rfl⟩, ?_, h2⟩
      simpa only [ByteArray.data_append, Array.toList_append, List.append_assoc, List.cons_append, List.nil_append] using h1)
    have hng3 : ¬ 9223372036854775807 < 1 + rs.length := by omega
    have hng4 : ¬ 9223372036854775807 < 1 + rs.length + hs.length := by omega
    clear hrl hrr hrn
    go_region_held3 (fun wx : World => wx.cell? ⟨pb, 0, none⟩ = some (.pointer (some ⟨bb, 0, none⟩)))
      (first | exact HKEEP3.out _ (Below.refl _ _) | exact HKEEP3.out _ (Below.refl _ _).drew | exact HKEEP3.out _ HBA.out | exact HKB.out)
      (first
        | (go_simp; go_at_call 170; refine (HRP.out _ (Below.refl _ _).drew).mono ?_; rintro eA wA ⟨rfl, hbA⟩; have HBA := Lib.hid ((Below.refl w3.heap.size w3).drew.trans hbA); clear hbA)
        | (go_simp; go_at_call 157; refine (HWS.out _ HBA.out).mono ?_; rintro eB wB ⟨⟨vB, rfl⟩, hBB, hKK⟩; have HBB := Lib.hid hBB; have HKK := Lib.hid ((Kb.calm (Kb.refl B bb w3) (HB2.out.calm HB3.out).le HBA.out).trans hKK)
           have HKB := Lib.hid ((((HP.out.below HB3.out).kb HKK.out hpb).1.cell 0 rfl))
           clear hBB hKK))
    all_goals
      go_wp2_with fail
      go_end0
      exact ⟨rfl, by rw [HONE.out]; exact HBB.out, HKW.out.trans ((Kb.calm (Kb.refl B bb w2) HB2.out.le HB3.out).trans HKK.out)⟩
  by_cases hk : k = 4
  · subst hk
    have HCQ := Lib.hid (quoteN (s := ⟨t.toArray⟩) HB2.out (by show _ + 4 * t.length + 2 ≤ big; omega))
    go_wp2_with (go_at_call 171; (with_reducible refine HCQ.out.mono ?_); rintro e3 w3 ⟨rfl, hB3, hK3⟩)
    go_end0
    exact ⟨rfl, by have hfin := hB3; exact hfin, HKW.out.trans hK3⟩
  by_cases hk : k = 5
  · subst hk
    have HC := Lib.hid (writeL 64 64 rfl HB2.out (by omega))
    go_wp2_with (first
      | (go_at_call 172; (with_reducible refine HC.out.mono ?_); rintro e3 w3 ⟨rfl, hB3, hK3⟩
         have HB3 := Lib.hid hB3
         have HK3 := Lib.hid hK3
         have cp3 := (HP.out.kb hK3 hpb).1.cell 0 rfl
         have ct3 := (HD.out.kb hK3 hdb).1.cell 3 rfl
         have HCQ := Lib.hid (quoteN (s := ⟨t.toArray⟩) hB3 (by rw [List.length_append]; show _ + 1 + 4 * t.length + 2 ≤ big; omega))
         clear hB3 hK3)
      | (go_at_call 171; (with_reducible refine HCQ.out.mono ?_); rintro e4 w4 ⟨rfl, hB4, hK4⟩))
    go_end0
    exact ⟨rfl, by have hfin := hB4; simpa [oneM, List.append_assoc] using hfin, HKW.out.trans (HK3.out.trans hK4)⟩
  by_cases hk : k = 6
  · subst hk
    cases hi1 : (i == 1)
    · have hone : oneM 6 i b t (rowP true kids) = [102, 97, 108, 115, 101] := by simp [oneM]; simpa using hi1
      rw [hone]
      have hfb : (⟨(Lib.formatBool false).toArray⟩ : ByteArray) = ⟨#[102, 97, 108, 115, 101]⟩ := by decide
      have HIN := Lib.hid (show ∀ wx, Below w2.heap.size w2 wx → Calls Tryz.prog 173 #[.bool false] wx (fun e w' => e = .returned (.string ⟨#[102, 97, 108, 115, 101]⟩) ∧ Below wx.heap.size wx w') from fun wx hx => (Tryz.strconv_FormatBool false wx).mono (by rintro e w' ⟨rfl, rfl⟩; exact ⟨by rw [hfb], Below.refl _ _⟩))
      have HWS := Lib.hid (show ∀ wx, Below w2.heap.size w2 wx → Calls Tryz.prog 157 #[.pointer (some ⟨bb, 0, none⟩), .string ⟨#[102, 97, 108, 115, 101]⟩] wx (fun e w' => e = .returned (.tuple #[.int .i64 (⟨#[102, 97, 108, 115, 101]⟩ : ByteArray).size, .nilIface]) ∧ Bd B bb (acc ++ [102, 97, 108, 115, 101]) w' ∧ Kb B bb wx w') from fun wx hx => by
        have h := writeS (s := ⟨#[102, 97, 108, 115, 101]⟩) (HB2.out.calm hx) (by rw [Lib.size_eq, show (⟨#[102, 97, 108, 115, 101]⟩ : ByteArray).data.toList = [102, 97, 108, 115, 101] from rfl]; simp only [List.length_cons, List.length_nil]; omega)
        rw [show (⟨#[102, 97, 108, 115, 101]⟩ : ByteArray).data.toList = [102, 97, 108, 115, 101] from rfl] at h
        exact h)
      go_wp2_with fail
      go_region_held3 (fun wx : World => wx.cell? ⟨pb, 0, none⟩ = some (.pointer (some ⟨bb, 0, none⟩)) ∧ wx.cell? ⟨db, 1, none⟩ = some (.int .i64 i) ∧ wx.cell? ⟨db, 3, none⟩ = some (.string ⟨t.toArray⟩))
        (first | exact HKEEP.out _ (Below.refl _ _) | exact HKEEP.out _ (Below.refl _ _).drew | exact HKEEP.out _ HBA.out | exact HKB.out)
        (first
          | (go_simp; go_at_call 173; refine (HIN.out _ (Below.refl _ _).drew).mono ?_; rintro eA wA ⟨rfl, hbA⟩; have HBA := Lib.hid ((Below.refl w2.heap.size w2).drew.trans hbA); clear hbA)
          | (go_simp; go_at_call 157; refine (HWS.out _ HBA.out).mono ?_; rintro eB wB ⟨rfl, hBB, hKK⟩; have HBB := Lib.hid hBB; have HKK := Lib.hid ((Kb.calm (Kb.refl B bb w2) HB2.out.le HBA.out).trans hKK)
             have HKB := Lib.hid (And.intro ((HP.out.kb HKK.out hpb).1.cell 0 rfl) (And.intro ((HD.out.kb HKK.out hdb).1.cell 1 rfl) ((HD.out.kb HKK.out hdb).1.cell 3 rfl)))
             clear hBB hKK))
      all_goals
        go_wp2_with fail
        go_end0
        exact ⟨rfl, by have hfin := HBB.out; exact hfin, HKW.out.trans HKK.out⟩
    · have hone : oneM 6 i b t (rowP true kids) = [116, 114, 117, 101] := by simp [oneM]; simpa using hi1
      rw [hone]
      have hfb : (⟨(Lib.formatBool true).toArray⟩ : ByteArray) = ⟨#[116, 114, 117, 101]⟩ := by decide
      have HIN := Lib.hid (show ∀ wx, Below w2.heap.size w2 wx → Calls Tryz.prog 173 #[.bool true] wx (fun e w' => e = .returned (.string ⟨#[116, 114, 117, 101]⟩) ∧ Below wx.heap.size wx w') from fun wx hx => (Tryz.strconv_FormatBool true wx).mono (by rintro e w' ⟨rfl, rfl⟩; exact ⟨by rw [hfb], Below.refl _ _⟩))
      have HWS := Lib.hid (show ∀ wx, Below w2.heap.size w2 wx → Calls Tryz.prog 157 #[.pointer (some ⟨bb, 0, none⟩), .string ⟨#[116, 114, 117, 101]⟩] wx (fun e w' => e = .returned (.tuple #[.int .i64 (⟨#[116, 114, 117, 101]⟩ : ByteArray).size, .nilIface]) ∧ Bd B bb (acc ++ [116, 114, 117, 101]) w' ∧ Kb B bb wx w') from fun wx hx => by
        have h := writeS (s := ⟨#[116, 114, 117, 101]⟩) (HB2.out.calm hx) (by rw [Lib.size_eq, show (⟨#[116, 114, 117, 101]⟩ : ByteArray).data.toList = [116, 114, 117, 101] from rfl]; simp only [List.length_cons, List.length_nil]; omega)
        rw [show (⟨#[116, 114, 117, 101]⟩ : ByteArray).data.toList = [116, 114, 117, 101] from rfl] at h
        exact h)
      go_wp2_with fail
      go_region_held3 (fun wx : World => wx.cell? ⟨pb, 0, none⟩ = some (.pointer (some ⟨bb, 0, none⟩)) ∧ wx.cell? ⟨db, 1, none⟩ = some (.int .i64 i) ∧ wx.cell? ⟨db, 3, none⟩ = some (.string ⟨t.toArray⟩))
        (first | exact HKEEP.out _ (Below.refl _ _) | exact HKEEP.out _ (Below.refl _ _).drew | exact HKEEP.out _ HBA.out | exact HKB.out)
        (first
          | (go_simp; go_at_call 173; refine (HIN.out _ (Below.refl _ _).drew).mono ?_; rintro eA wA ⟨rfl, hbA⟩; have HBA := Lib.hid ((Below.refl w2.heap.size w2).drew.trans hbA); clear hbA)
          | (go_simp; go_at_call 157; refine (HWS.out _ HBA.out).mono ?_; rintro eB wB ⟨rfl, hBB, hKK⟩; have HBB := Lib.hid hBB; have HKK := Lib.hid ((Kb.calm (Kb.refl B bb w2) HB2.out.le HBA.out).trans hKK)
             have HKB := Lib.hid (And.intro ((HP.out.kb HKK.out hpb).1.cell 0 rfl) (And.intro ((HD.out.kb HKK.out hdb).1.cell 1 rfl) ((HD.out.kb HKK.out hdb).1.cell 3 rfl)))
             clear hBB hKK))
      all_goals
        go_wp2_with fail
        go_end0
        exact ⟨rfl, by have hfin := HBB.out; exact hfin, HKW.out.trans HKK.out⟩
  by_cases hk : k = 7
  · subst hk
    have HIN := Lib.hid (show ∀ wx, Below w2.heap.size w2 wx → Calls Tryz.prog 174 #[.string ⟨t.toArray⟩] wx (fun e w' => e = .returned (.string ⟨(pairsM t).toArray⟩) ∧ Below wx.heap.size wx w') from fun wx hx => pairsN (s := ⟨t.toArray⟩) (by show 2 * t.length + 2 ≤ big; omega))
    have HWS := Lib.hid (show ∀ wx, Below w2.heap.size w2 wx → Calls Tryz.prog 157 #[.pointer (some ⟨bb, 0, none⟩), .string (⟨#[37]⟩ ++ ⟨(pairsM t).toArray⟩)] wx (fun e w' => e = .returned (.tuple #[.int .i64 ((⟨#[37]⟩ ++ ⟨(pairsM t).toArray⟩) : ByteArray).size, .nilIface]) ∧ Bd B bb (acc ++ (37 :: pairsM t)) w' ∧ Kb B bb wx w') from fun wx hx => by
      have h := writeS (s := (⟨#[37]⟩ ++ ⟨(pairsM t).toArray⟩)) (HB2.out.calm hx) (by rw [Lib.size_eq, show ((⟨#[37]⟩ ++ ⟨(pairsM t).toArray⟩) : ByteArray).data.toList = (37 :: pairsM t) from by rw [ByteArray.data_append, Array.toList_append]; rfl]; have hpp := pairs_len t; simp only [List.length_cons]; omega)
      rw [show ((⟨#[37]⟩ ++ ⟨(pairsM t).toArray⟩) : ByteArray).data.toList = (37 :: pairsM t) from by rw [ByteArray.data_append, Array.toList_append]; rfl] at h
      exact h)
    go_wp2_with fail
    go_region_held3 (fun wx : World => wx.cell? ⟨pb, 0, none⟩ = some (.pointer (some ⟨bb, 0, none⟩)) ∧ wx.cell? ⟨db, 1, none⟩ = some (.int .i64 i) ∧ wx.cell? ⟨db, 3, none⟩ = some (.string ⟨t.toArray⟩))
      (first | exact HKEEP.out _ (Below.refl _ _) | exact HKEEP.out _ (Below.refl _ _).drew | exact HKEEP.out _ HBA.out | exact HKB.out)
      (first
        | (go_simp; go_at_call 174; refine (HIN.out _ (Below.refl _ _).drew).mono ?_; rintro eA wA ⟨rfl, hbA⟩; have HBA := Lib.hid ((Below.refl w2.heap.size w2).drew.trans hbA); clear hbA)
        | (go_simp; go_at_call 157; refine (HWS.out _ HBA.out).mono ?_; rintro eB wB ⟨rfl, hBB, hKK⟩; have HBB := Lib.hid hBB; have HKK := Lib.hid ((Kb.calm (Kb.refl B bb w2) HB2.out.le HBA.out).trans hKK)
           have HKB := Lib.hid (And.intro ((HP.out.kb HKK.out hpb).1.cell 0 rfl) (And.intro ((HD.out.kb HKK.out hdb).1.cell 1 rfl) ((HD.out.kb HKK.out hdb).1.cell 3 rfl)))
           clear hBB hKK))
    all_goals
      go_wp2_with fail
      go_end0
      exact ⟨rfl, by have hfin := HBB.out; exact hfin, HKW.out.trans HKK.out⟩
  by_cases hk : k = 8
  · subst hk
    have HC := Lib.hid (putRow (o := ⟨#[91]⟩) (e := ⟨#[93]⟩) hall (HF.out.same (fun x hx hlt => HKW.out.below.block x (hS x hx)) (fun x hx _ => hx)) hS HB2.out hBb (Nat.lt_of_lt_of_le hbw HKW.out.below.size) HL2.out h7 HP.out HD.out hpb hdb hpl (by show _ + 1 + _ + 1 ≤ big; omega))
    go_wp2_with (go_at_call 167; (with_reducible refine HC.out.mono ?_); rintro e3 w3 ⟨rfl, hB3, hK3⟩)
    go_end0
    exact ⟨rfl, by have hfin := hB3; simpa [oneM, List.append_assoc] using hfin, HKW.out.trans hK3⟩
  by_cases hk : k = 9
  · subst hk
    have HC := Lib.hid (putRow (o := ⟨#[40]⟩) (e := ⟨#[41]⟩) hall (HF.out.same (fun x hx hlt => HKW.out.below.block x (hS x hx)) (fun x hx _ => hx)) hS HB2.out hBb (Nat.lt_of_lt_of_le hbw HKW.out.below.size) HL2.out h7 HP.out HD.out hpb hdb hpl (by show _ + 1 + _ + 1 ≤ big; omega))
    go_wp2_with (go_at_call 167; (with_reducible refine HC.out.mono ?_); rintro e3 w3 ⟨rfl, hB3, hK3⟩)
    go_end0
    exact ⟨rfl, by have hfin := hB3; simpa [oneM, List.append_assoc] using hfin, HKW.out.trans hK3⟩
  by_cases hk : k = 10
  · subst hk
    have HIN := Lib.hid (show ∀ wx, Below w2.heap.size w2 wx → Calls Tryz.prog 168 #[.int .i64 i] wx (fun e w' => e = .returned (.string ⟨(dec i).toArray⟩) ∧ Below wx.heap.size wx w') from fun wx hx => decimalN HR.out.1 HR.out.2 (HL2.out.below hx (Nat.le_trans h7 HB2.out.le)))
    have HWS := Lib.hid (show ∀ wx, Below w2.heap.size w2 wx → Calls Tryz.prog 157 #[.pointer (some ⟨bb, 0, none⟩), .string (⟨#[33]⟩ ++ ⟨(dec i).toArray⟩)] wx (fun e w' => e = .returned (.tuple #[.int .i64 ((⟨#[33]⟩ ++ ⟨(dec i).toArray⟩) : ByteArray).size, .nilIface]) ∧ Bd B bb (acc ++ (33 :: dec i)) w' ∧ Kb B bb wx w') from fun wx hx => by
      have h := writeS (s := (⟨#[33]⟩ ++ ⟨(dec i).toArray⟩)) (HB2.out.calm hx) (by rw [Lib.size_eq, show ((⟨#[33]⟩ ++ ⟨(dec i).toArray⟩) : ByteArray).data.toList = (33 :: dec i) from by rw [ByteArray.data_append, Array.toList_append]; rfl]; simp only [List.length_cons]; omega)
      rw [show ((⟨#[33]⟩ ++ ⟨(dec i).toArray⟩) : ByteArray).data.toList = (33 :: dec i) from by rw [ByteArray.data_append, Array.toList_append]; rfl] at h
      exact h)
    go_wp2_with fail
    go_region_held3 (fun wx : World => wx.cell? ⟨pb, 0, none⟩ = some (.pointer (some ⟨bb, 0, none⟩)) ∧ wx.cell? ⟨db, 1, none⟩ = some (.int .i64 i) ∧ wx.cell? ⟨db, 3, none⟩ = some (.string ⟨t.toArray⟩))
      (first | exact HKEEP.out _ (Below.refl _ _) | exact HKEEP.out _ (Below.refl _ _).drew | exact HKEEP.out _ HBA.out | exact HKB.out)
      (first
        | (go_simp; go_at_call 168; refine (HIN.out _ (Below.refl _ _).drew).mono ?_; rintro eA wA ⟨rfl, hbA⟩; have HBA := Lib.hid ((Below.refl w2.heap.size w2).drew.trans hbA); clear hbA)
        | (go_simp; go_at_call 157; refine (HWS.out _ HBA.out).mono ?_; rintro eB wB ⟨rfl, hBB, hKK⟩; have HBB := Lib.hid hBB; have HKK := Lib.hid ((Kb.calm (Kb.refl B bb w2) HB2.out.le HBA.out).trans hKK)
           have HKB := Lib.hid (And.intro ((HP.out.kb HKK.out hpb).1.cell 0 rfl) (And.intro ((HD.out.kb HKK.out hdb).1.cell 1 rfl) ((HD.out.kb HKK.out hdb).1.cell 3 rfl)))
           clear hBB hKK))
    all_goals
      have HCQ := Lib.hid (quoteN (s := ⟨t.toArray⟩) HBB.out (by rw [Lib.size_eq]; simp only [List.length_cons, List.length_append]; show _ + 4 * t.length + 2 ≤ big; omega))
      have cpB := HKB.out.1
      have ctB := HKB.out.2.2
      go_wp2_with (go_at_call 171; (with_reducible refine HCQ.out.mono ?_); rintro e3 w3 ⟨rfl, hB3, hK3⟩)
      go_end0
      exact ⟨rfl, by have hfin := hB3; simpa [oneM, List.append_assoc] using hfin, HKW.out.trans (HKK.out.trans hK3)⟩
  by_cases hk : k = 11
  · subst hk
    have HIN := Lib.hid (decimalN HR.out.1 HR.out.2 HL2.out)
    go_wp2_with (first
      | (go_at_call 168; (with_reducible refine HIN.out.mono ?_); rintro e3 w3 ⟨rfl, hb3⟩
         have HB3 := Lib.hid hb3
         have HC := Lib.hid (putRow (o := ⟨#[38]⟩ ++ ⟨(dec i).toArray⟩ ++ ⟨#[40]⟩) (e := ⟨#[41]⟩) hall (HF.out.same (fun x hx hlt => ((HKW.out.calm hBw hb3).below.block x (hS x hx))) (fun x hx _ => hx)) hS (HB2.out.calm hb3) hBb (Nat.lt_of_lt_of_le hbw (Nat.le_trans HKW.out.below.size hb3.size)) (HL2.out.below hb3 (Nat.le_trans h7 HB2.out.le)) h7 (HP.out.below hb3) (HD.out.below hb3) hpb hdb hpl (by rw [ByteArray.size_append, ByteArray.size_append]; have := dec_len i; show _ + (1 + (dec i).length + 1) + _ + 1 ≤ big; omega))
         clear hb3)
      | (go_at_call 167; (with_reducible refine HC.out.mono ?_); rintro e4 w4 ⟨rfl, hB4, hK4⟩))
    go_end0
    exact ⟨rfl, by have hfin := hB4; rw [ByteArray.data_append, ByteArray.data_append] at hfin; simpa [oneM, List.append_assoc] using hfin, HKW.out.trans ((Kb.calm (Kb.refl B bb w2) HB2.out.le HB3.out).trans hK4)⟩
  by_cases hk : k = 12
  · subst hk
    have HC := Lib.hid (writeS (s := ⟨#[38, 110, 105, 108]⟩) HB2.out (by show _ + 4 ≤ big; omega))
    go_wp2_with (go_at_call 157; (with_reducible refine HC.out.mono ?_); rintro e3 w3 ⟨rfl, hB3, hK3⟩)
    go_end0
    exact ⟨rfl, by have hfin := hB3; exact hfin, HKW.out.trans hK3⟩
  by_cases hk : k = 13
  · subst hk
    have HC := Lib.hid (writeS (s := ⟨#[123, 125]⟩) HB2.out (by show _ + 2 ≤ big; omega))
    go_wp2_with (go_at_call 157; (with_reducible refine HC.out.mono ?_); rintro e3 w3 ⟨rfl, hB3, hK3⟩)
    go_end0
    exact ⟨rfl, by have hfin := hB3; exact hfin, HKW.out.trans hK3⟩
  have h0 : (k == 0) = false := by simp; omega
  have h1 : (k == 1) = false := by simp; omega
  have h2 : (k == 2) = false := by simp; omega
  have h3 : (k == 3) = false := by simp; omega
  have h4 : (k == 4) = false := by simp; omega
  have h5 : (k == 5) = false := by simp; omega
  have h6 : (k == 6) = false := by simp; omega
  have h7 : (k == 7) = false := by simp; omega
  have h8 : (k == 8) = false := by simp; omega
  have h9 : (k == 9) = false := by simp; omega
  have h10 : (k == 10) = false := by simp; omega
  have h11 : (k == 11) = false := by simp; omega
  have h12 : (k == 12) = false := by simp; omega
  have h13 : (k == 13) = false := by simp; omega
  have hone : oneM k i b t (rowP true kids) = [] := by
    unfold oneM
    repeat (rw [if_neg (by omega)])
  rw [hone, List.append_nil]
  go_wp2_with fail
  go_end0
  exact ⟨rfl, HB2.out, HKW.out⟩
theorem putAll : ∀ f : Fo, f.All PutOK
  | .nil => trivial
  | .cons _ _ _ _ kids rest => ⟨putN (putAll kids), putAll rest⟩
theorem putG (kids : Fo) : PutOK kids := putN (putAll kids)
end Go.Proofs.YtbldidiibkcelaaGreatDoor


/-
  Print (walk). Not a statement of the seat.
-/
namespace Go.Proofs.YtbldidiibkcelaaGreatDoor
open Go.RowKit

def prw (w : World) (d : Dt) (l : Option Addr) (n c : Nat) : World :=
  (w.alloc (.cells #[.int .i64 d.k, .int .i64 d.i, .int .u64 d.b, .string ⟨d.t.toArray⟩, .slice l n c] 25)).alloc (.cells #[.pointer none, .slice none 0 0] 248)
theorem prw_facts (w : World) (d : Dt) (l : Option Addr) (n c : Nat) : Blk (prw w d l n c) w.heap.size [.int .i64 d.k, .int .i64 d.i, .int .u64 d.b, .string ⟨d.t.toArray⟩, .slice l n c] ∧
    Bd (w.heap.size + 1) (w.heap.size + 1) [] (prw w d l n c) ∧ Below w.heap.size w (prw w d l n c) := by
  refine ⟨(Blk.new w _ _).alloc _, ?_, ((Below.refl _ w).alloc (Nat.le_refl _) _).alloc (by simp) _⟩
  have := Bd.new (w.alloc (.cells #[.int .i64 d.k, .int .i64 d.i, .int .u64 d.b, .string ⟨d.t.toArray⟩, .slice l n c] 25))
  simpa [prw] using this
set_option maxRecDepth 100000 in
theorem printN {S : Nat → Prop} {d : Dt} {l : Option Addr} {n c : Nat} {w : World} (hF : FoAt S w d.l l n c) (hS : ∀ x, S x → x < w.heap.size) (hL : Lb w) (hp : d.fo.plain) (hw : d.fo.wt ≤ big) :
    Calls Tryz.prog 165 #[.agg #[.int .i64 d.k, .int .i64 d.i, .int .u64 d.b, .string ⟨d.t.toArray⟩, .slice l n c]] w (fun e w' => e = .returned (.string ⟨(printM d).toArray⟩) ∧ Below w.heap.size w w') := by
  have HW := Lib.hid (prw_facts w d l n c)
  have hsz : w.heap.size + 1 < (prw w d l n c).heap.size := by simp [prw]
  have HC := Lib.hid (putG d.l d.k d.i d.b d.t l n c S (w.heap.size + 1) (w.heap.size + 1) [] (prw w d l n c) (hF.same (fun x hx hlt => HW.out.2.2.block x hlt) (fun x hx _ => hx)) (fun x hx => by have := hS x hx; omega) HW.out.2.1 (Nat.le_refl _) hsz
    (hL.below HW.out.2.2 hL.size) (by have := hL.size; omega) hp.1 hp.2.1 (by have : d.fo.wt = 4 * d.t.length + 110 + d.l.wt + 0 := rfl; show 0 + _ + _ + _ ≤ big; omega))
  clear hF hS hL hp hw hsz
  go_enter Tryz.func165, Tryz.ntmps165
  go_upto_region 2 with (fail)
  change Code.wp _ _ _ _ (prw w d l n c)
  generalize prw w d l n c = w1 at *
  have b0 := HW.out.1.cell 0 rfl
  have b1 := HW.out.1.cell 1 rfl
  have b2 := HW.out.1.cell 2 rfl
  have b3 := HW.out.1.cell 3 rfl
  have b4 := HW.out.1.cell 4 rfl
  go_wp2_with (first
    | (go_at_call 166; (with_reducible refine HC.out.mono ?_); rintro e2 w2 ⟨rfl, hB, hK⟩
       have HC2 := Lib.hid (stringN hB)
       have HK := Lib.hid hK
       clear hB hK b0 b1 b2 b3 b4)
    | (go_at_call 158; (with_reducible refine HC2.out.mono ?_); rintro e3 w3 ⟨rfl, hB, hK⟩))
  go_ret
  exact ⟨rfl, (HW.out.2.2.trans (HK.out.below.mono (Nat.le_succ _))).trans (hK.below.mono (Nat.le_succ _))⟩
end Go.Proofs.YtbldidiibkcelaaGreatDoor


/-
  What is printed reads back as it was: plain laws, no program in sight. Not a statement of the seat.
-/
namespace Go.Proofs.YtbldidiibkcelaaGreatDoor

/-- no digit of a number stands next -/
def Ends (r : Bs) : Prop := ∀ c r', r = c :: r' → Go.Lib.indexByte hexD c < 0
theorem Ends.nil : Ends [] := fun _ _ h => by cases h
theorem len_zero {f : Fo} (h : f.len = 0) : f = .nil := by
  cases f with
  | nil => rfl
  | cons k i b t ks r => simp [Fo.len] at h
theorem fits_range {k i b : Int} {t : Bs} {n : Nat} (h : fitsM k i b t n = true) : 0 ≤ k ∧ k ≤ 13 := by
  simp only [fitsM, Bool.and_eq_true, decide_eq_true_eq] at h
  omega
end Go.Proofs.YtbldidiibkcelaaGreatDoor


/-
  A value among the arguments ('Ar'), what may be asked of it in every later world, and two boxed ones. Not a statement of the seat.
-/
namespace Go.Proofs.YtbldidiibkcelaaGreatDoor
open Go.RowKit

structure Ar (S : Nat → Prop) (w : World) (d : Dt) (l : Option Addr) (n c : Nat) : Prop where
  at' : FoAt S w d.l l n c
  lt : ∀ x, S x → x < w.heap.size
section
variable {S : Nat → Prop} {w wx : World} {d : Dt} {l : Option Addr} {n c : Nat}
theorem Ar.below (h : Ar S w d l n c) (hx : Below w.heap.size w wx) : Ar S wx d l n c :=
  ⟨h.at'.same (fun x _ hlt => hx.block x hlt) (fun _ hx2 _ => hx2), fun x hx2 => Nat.lt_of_lt_of_le (h.lt x hx2) hx.size⟩
theorem Ar.len (h : Ar S w d l n c) : d.l.len = n := h.at'.len
theorem Ar.same {d' : Dt} {l' : Option Addr} {n' c' : Nat} (h : Ar S w d l n c) (h' : Ar S w d' l' n' c') : Calls Tryz.prog 46 #[.agg #[.int .i64 d.k, .int .i64 d.i, .int .u64 d.b, .string ⟨d.t.toArray⟩, .slice l n c], .agg #[.int .i64 d'.k, .int .i64 d'.i, .int .u64 d'.b, .string ⟨d'.t.toArray⟩, .slice l' n' c']] w
    (fun e w' => e = .returned (.bool (headM d.k d.i d.b d.t n d'.k d'.i d'.b d'.t n' && sameM d.l d'.l)) ∧ Below w.heap.size w w') := sameG d.l _ _ _ _ _ _ _ _ _ _ _ _ _ _ _ S w h.at' h'.at' h.lt
end

end Go.Proofs.YtbldidiibkcelaaGreatDoor


/-
  The document's Print (walks). Not a statement of the seat.
-/
namespace Go.Proofs.YtbldidiibkcelaaGreatDoor
open Go.RowKit

theorem digitsR {n : Int} {w : World} (h0 : -9223372036854775808 ≤ n) (h1 : n ≤ 9223372036854775807) (h : Lb w) :
    Calls Tryz.prog 90 #[.int .i64 n] w (fun e w' => e = .returned (.string ⟨(dec n).toArray⟩) ∧ Below w.heap.size w w') := by
  have hd := dec_eq n h0 h1
  have HT := Lib.hid h.tab
  clear h
  go_enter Tryz.func90, Tryz.ntmps90
  go_wp2_with (go_at_call 63; refine (Tryz.strconv_FormatInt_10 _ h0 h1 _ HT.out).mono ?_; rintro e w1 ⟨rfl, k, os, rfl⟩)
  go_ret
  exact ⟨by rw [hd]; rfl, below_grow _ _ _⟩
/-- R.Print of a value with these children -/
def RPOK (kids : Fo) : Prop := ∀ (k i b : Int) (t : Bs) (l : Option Addr) (n c : Nat) (S : Nat → Prop) (w : World), FoAt S w kids l n c → (∀ x, S x → x < w.heap.size) → Lb w → fitsM k i b t kids.len = true → rightM kids = true →
  ((0 ≤ b ∧ b < 18446744073709551616) ∧ -9223372036854775808 ≤ i ∧ i ≤ 9223372036854775807) → kids.plain → 4 * t.length + 110 + kids.wt ≤ 2000000000 →
  Calls Tryz.prog 62 #[.agg #[.int .i64 k, .int .i64 i, .int .u64 b, .string ⟨t.toArray⟩, .slice l n c]] w (fun e w' => e = .returned (.string ⟨(oneM k i b t (rowP true kids)).toArray⟩) ∧ Below w.heap.size w w')
def RwRel (kids : Fo) (w : World) (t3 t7 : Value) (wr : World) : Prop := ∃ (dn rest : Fo) (o : ByteArray), t3 = .string o ∧ t7 = .int .i64 (dn.len : Nat) ∧ kids = dn.app rest ∧ o.data.toList = rowP true dn ∧ Below w.heap.size w wr
theorem right_app : ∀ (f : Fo) {g : Fo}, rightM (f.app g) = true → rightM g = true
  | .nil, _, h => h
  | .cons _ _ _ _ _ r, _, h => by
    simp only [Fo.app, rightM, Bool.and_eq_true] at h
    exact right_app r h.2
set_option maxHeartbeats 8000000 in
set_option maxRecDepth 100000 in
theorem rrowN {kids : Fo} (hall : kids.All RPOK) {l : Option Addr} {n c : Nat} {S : Nat → Prop} {w : World} (hF : FoAt S w kids l n c) (hS : ∀ x, S x → x < w.heap.size) (hL : Lb w) (hr : rightM kids = true) (hp : kids.plain) (hw : kids.wt ≤ 2000000000) :
    Calls Tryz.prog 93 #[.slice l n c] w (fun e w' => e = .returned (.string ⟨(rowP true kids).toArray⟩) ∧ Below w.heap.size w w') := by
  have hlen := hF.len
  have HF := Lib.hid hF
  have HS := Lib.hid hS
  have HL := Lib.hid hL
  have HALL := Lib.hid hall
  have HR := Lib.hid hr
  have HP := Lib.hid hp
  have HWT := Lib.hid hw
  have HLEN := Lib.hid hlen
  clear hF hS hL hall hr hp hlen hw
  go_enter Tryz.func93, Tryz.ntmps93
  go_wp2_with fail
  go_loopw [3, 7] (fun t3 t7 wr => RwRel kids w t3 t7 wr) (fun _ t7 _ => n - (intOf t7).toNat)
  case atStart => exact ⟨.nil, kids, _, rfl, rfl, rfl, rfl, Below.refl _ _⟩
  case round =>
    obtain ⟨dn, rest, o, rfl, rfl, hk, ho, hb⟩ := hrel
    have hlen := HLEN.out
    rw [hk, Fo.len_app] at hlen
    have HO := Lib.hid ho
    have HB := Lib.hid hb
    cases rest with
    | nil =>
      have hj : ¬ (dn.len : Int) < (n : Int) := by have : Fo.len .nil = 0 := rfl; omega
      have hke : kids = dn := by rw [hk, Fo.app_nil]
      have HKE := Lib.hid hke
      clear hk hlen hke ho hb
      go_wp2_with fail
      go_ret
      refine ⟨?_, HB.out⟩
      rw [HKE.out, ← HO.out, Lib.mk_data]
      rfl
    | cons k2 i2 b2 t2 ks r2 =>
      have hlr : (Fo.cons k2 i2 b2 t2 ks r2).len = r2.len + 1 := rfl
      have hF := HF.out.same (w' := wr) (fun x hx hlt => hb.block x hlt) (fun x hx _ => hx)
      rw [hk] at hF
      obtain ⟨bb, off, a2, n2, cp2, rfl, hkF, e0, e1, e2, e3, e4, hnb, hjn⟩ := hF.elem
      have hj : (dn.len : Int) < (n : Int) := by omega
      have hOK : RPOK ks := by
        have hal := HALL.out
        rw [hk] at hal
        exact (Fo.All.split dn hal).1
      have hrt : rightM (.cons k2 i2 b2 t2 ks r2) = true := right_app dn (by rw [← hk]; exact HR.out)
      simp only [rightM, Bool.and_eq_true] at hrt
      have hpl : Fo.plain (.cons k2 i2 b2 t2 ks r2) := plain_app dn (by rw [← hk]; exact HP.out)
      have hwt := wt_app dn (.cons k2 i2 b2 t2 ks r2)
      rw [← hk] at hwt
      have hw9 := HWT.out
      simp only [Fo.wt] at hwt
      have hol : o.size ≤ dn.wt := by rw [Lib.size_eq, ho]; exact rowP_len dn true
      have hon : (oneM k2 i2 b2 t2 (rowP true ks)).length ≤ 4 * t2.length + 90 + ks.wt := by
        have h1 := oneM_len k2 i2 b2 t2 (rowP true ks)
        have h2 := rowP_len ks true
        omega
      have n1 : ¬ 9223372036854775807 < o.size + (oneM k2 i2 b2 t2 (rowP true ks)).length := by omega
      have n2' : ¬ 9223372036854775807 < o.size + 2 := by omega
      have n3 : ¬ 9223372036854775807 < o.size + 2 + (oneM k2 i2 b2 t2 (rowP true ks)).length := by omega
      have HC := Lib.hid (hOK k2 i2 b2 t2 a2 n2 cp2 S wr hkF (fun x hx2 => Nat.lt_of_lt_of_le (HS.out x hx2) hb.size) (HL.out.below hb HL.out.size) hrt.1.1 hrt.1.2 hpl.1 hpl.2.1 (by omega))
      have hsn := rowP_snoc dn true k2 i2 b2 t2 ks
      have HSN := Lib.hid hsn
      have HKK := Lib.hid hk
      have HJ := Lib.hid hjn
      clear hkF hOK hk hlen hF hlr ho hb hrt hpl hwt hw9 hol hon hsn
      generalize oneM k2 i2 b2 t2 (rowP true ks) = ot at *
      generalize hjj : dn.len = j at *
      have HJJ := Lib.hid hjj
      clear hjj
      by_cases hj0 : j = 0
      · have hz : ¬ (0 : Int) < (j : Int) := by omega
        have HJ0 := Lib.hid hj0
        clear hj0
        go_wp2_with (go_at_call 62; (with_reducible refine HC.out.mono ?_); rintro e w5 ⟨rfl, hb5⟩)
        go_roundw
        case rel =>
          refine ⟨dn.app (.cons k2 i2 b2 t2 ks .nil), r2, _, rfl, ?_, ?_, ?_, HB.out.trans (hb5.mono HB.out.size)⟩
          · rw [Fo.len_app, HJJ.out, show (Fo.cons k2 i2 b2 t2 ks .nil).len = 1 from rfl]; go_num
          · rw [Fo.app_assoc]; exact HKK.out
          · rw [HSN.out, cat_data, HO.out, HJ0.out]; simp
        case measure => simp [intOf]; have := HJ.out; omega
      · have hz : (0 : Int) < (j : Int) := by omega
        have HJ0 := Lib.hid hj0
        clear hj0
        go_wp2_with (go_at_call 62; (with_reducible refine HC.out.mono ?_); rintro e w5 ⟨rfl, hb5⟩)
        go_roundw
        case rel =>
          refine ⟨dn.app (.cons k2 i2 b2 t2 ks .nil), r2, _, rfl, ?_, ?_, ?_, HB.out.trans (hb5.mono HB.out.size)⟩
          · rw [Fo.len_app, HJJ.out, show (Fo.cons k2 i2 b2 t2 ks .nil).len = 1 from rfl]; go_num
          · rw [Fo.app_assoc]; exact HKK.out
          · rw [HSN.out, cat_data, cat_data, HO.out]; simp [HJ0.out]
        case measure => simp [intOf]; have := HJ.out; omega
theorem hexN_step (m v : Nat) : hexN (m + 2) v = hexN m (v / 256) ++ hex2 (UInt8.ofNat (v % 256)) := by
  have h1 : (UInt8.ofNat (v % 256)).toNat = v % 256 := by rw [UInt8.toNat_ofNat']; show v % 256 % 256 = _; omega
  rw [hexN, hexN, hex2, h1, List.append_assoc, show v / 16 / 16 = v / 256 by omega, show v / 16 % 16 = v % 256 / 16 by omega, show v % 256 % 16 = v % 16 by omega]
  rfl
def PyRel (s : ByteArray) (w : World) (t5 t6 : Value) (wr : World) : Prop := ∃ (j : Nat) (o : ByteArray), j ≤ s.size ∧ t5 = .string o ∧ t6 = .int .i64 (j : Nat) ∧ o.data.toList = 37 :: pairsM (s.data.toList.take j) ∧ Below w.heap.size w wr
def FlRel (u : Nat) (w : World) (t3 t4 : Value) (wr : World) : Prop := ∃ (j : Nat) (o : ByteArray) (k : Int), j ≤ 8 ∧ t3 = .string o ∧ t4 = .int .i64 k ∧ k = 56 - 8 * (j : Int) ∧ o.data.toList = 102 :: hexN (2 * j) (u / 2 ^ (64 - 8 * j)) ∧ Below w.heap.size w wr
set_option maxHeartbeats 16000000 in
set_option maxRecDepth 100000 in
theorem rprintN {kids : Fo} (hall : kids.All RPOK) : RPOK kids := by
  intro k i b t l n c S w hF hS hL hfit hrk hr hkp hw
  have HX := boxD_blk w ⟨k, i, b, t, kids⟩ l n c
  have HB := Lib.hid (boxD_below w ⟨k, i, b, t, kids⟩ l n c)
  have HLW := Lib.hid (hL.below HB.out hL.size)
  have hdl := dec_len i
  go_enter Tryz.func62, Tryz.ntmps62
  go_upto_region 1 with (fail)
  change Code.wp _ _ _ _ (boxD w ⟨k, i, b, t, kids⟩ l n c)
  generalize boxD w ⟨k, i, b, t, kids⟩ l n c = w1 at *
  obtain ⟨p, hp⟩ : ∃ p, p = w.heap.size := ⟨_, rfl⟩
  rw [← hp] at HX
  rw [← hp]
  have x0 := HX.cell 0 rfl
  have x1 := HX.cell 1 rfl
  have x2 := HX.cell 2 rfl
  have x3 := HX.cell 3 rfl
  have x4 := HX.cell 4 rfl
  have HKEEP := Lib.hid (show ∀ wx, Below w1.heap.size w1 wx → wx.cell? ⟨p, 1, none⟩ = some (.int .i64 i) ∧ wx.cell? ⟨p, 3, none⟩ = some (.string ⟨t.toArray⟩) ∧ wx.cell? ⟨p, 4, none⟩ = some (.slice l n c) from fun wx hx => ⟨cellAt hx x1, cellAt hx x3, cellAt hx x4⟩)
  have HR := Lib.hid hr.2
  have hb9 := hr.1
  clear hL hr HX hp
  by_cases hk : k = 0
  · subst hk
    go_wp2_with fail
    go_ret
    exact ⟨rfl, HB.out⟩
  by_cases hk : k = 1
  · subst hk
    have HC := Lib.hid (digitsR HR.out.1 HR.out.2 HLW.out)
    go_wp2_with (go_at_call 90; (with_reducible refine HC.out.mono ?_); rintro e w2 ⟨rfl, hb2⟩)
    go_ret
    exact ⟨rfl, HB.out.trans (hb2.mono HB.out.size)⟩
  by_cases hk : k = 2
  · subst hk
    have HC := Lib.hid (digitsR HR.out.1 HR.out.2 HLW.out)
    have n1 : ¬ 9223372036854775807 < 1 + (dec i).length := by omega
    go_wp2_with (go_at_call 90; (with_reducible refine HC.out.mono ?_); rintro e w2 ⟨rfl, hb2⟩)
    go_ret
    exact ⟨by show _ = Ending.returned (Value.string ⟨(35 :: dec i).toArray⟩); rw [show (35 :: dec i) = ((⟨#[35]⟩ : ByteArray) ++ ⟨(dec i).toArray⟩).data.toList by rw [cat_data]; rfl, Lib.mk_data]; rfl, HB.out.trans (hb2.mono HB.out.size)⟩
  by_cases hk : k = 3
  · subst hk
    obtain ⟨u, hbu⟩ : ∃ u : Nat, b = (u : Int) := ⟨b.toNat, by omega⟩
    have HBU := Lib.hid hbu
    have hu : u < 18446744073709551616 := by omega
    clear hbu

    go_wp2_with fail
    go_loopw [3, 4] (fun t3 t4 wr => FlRel u w1 t3 t4 wr) (fun _ t4 _ => (intOf t4 + 8).toNat)
    case atStart => exact ⟨0, _, _, by omega, rfl, rfl, by omega, by show [102] = 102 :: hexN 0 _; rfl, Below.refl _ _⟩
    case round =>
      obtain ⟨j, o, kk, hj, rfl, rfl, hkk, ho, hb⟩ := hrel
      have HO := Lib.hid ho
      have HBr := Lib.hid hb
      have x2' := cellAt hb x2
      have hol : o.size = 1 + 2 * j := by rw [Lib.size_eq, ho, List.length_cons, hexN_len]; omega
      clear ho hb x2
      by_cases hjj : j = 0
      · subst hjj
        obtain rfl : kk = 56 := by omega
        clear hkk hj
        have hc : IntKind.u8.wrap (b / 72057594037927936) = ((UInt8.ofNat (u / 72057594037927936 % 256)).toNat : Int) := by
          rw [HBU.out, UInt8.toNat_ofNat', IntKind.wrap_u8']
          show _ = ((u / 72057594037927936 % 256 % 256 : Nat) : Int)
          omega
        have hst := hexN_step 0 (u / 72057594037927936)
        rw [show u / 72057594037927936 / 256 = u / 18446744073709551616 by omega] at hst
        have HST := Lib.hid hst
        clear hst
        have HC := Lib.hid (hexR (UInt8.ofNat (u / 72057594037927936 % 256)) wr)
        have hl2 : (hex2 (UInt8.ofNat (u / 72057594037927936 % 256))).length = 2 := rfl
        generalize UInt8.ofNat (u / 72057594037927936 % 256) = cc at *
        generalize hex2 cc = hh at *
        have n1 : ¬ 9223372036854775807 < o.size + hh.length := by omega
        clear hl2
        go_wp2_with (go_at_call 91; (with_reducible refine HC.out.mono ?_); rintro e w2 ⟨rfl, m, rfl⟩)
        go_roundw
        case rel =>
          refine ⟨1, _, _, by omega, rfl, rfl, by omega, ?_, HBr.out.trans (below_drewN _ _ _)⟩
          rw [cat_data, HO.out]
          show 102 :: (hexN 0 (u / 18446744073709551616) ++ hh) = 102 :: hexN 2 (u / 72057594037927936)
          rw [HST.out]
        case measure => simp [intOf]
      by_cases hjj : j = 1
      · subst hjj
        obtain rfl : kk = 48 := by omega
        clear hkk hj
        have hc : IntKind.u8.wrap (b / 281474976710656) = ((UInt8.ofNat (u / 281474976710656 % 256)).toNat : Int) := by
          rw [HBU.out, UInt8.toNat_ofNat', IntKind.wrap_u8']
          show _ = ((u / 281474976710656 % 256 % 256 : Nat) : Int)
          omega
        have hst := hexN_step 2 (u / 281474976710656)
        rw [show u / 281474976710656 / 256 = u / 72057594037927936 by omega] at hst
        have HST := Lib.hid hst
        clear hst
        have HC := Lib.hid (hexR (UInt8.ofNat (u / 281474976710656 % 256)) wr)
        have hl2 : (hex2 (UInt8.ofNat (u / 281474976710656 % 256))).length = 2 := rfl
        generalize UInt8.ofNat (u / 281474976710656 % 256) = cc at *
        generalize hex2 cc = hh at *
        have n1 : ¬ 9223372036854775807 < o.size + hh.length := by omega
        clear hl2
        go_wp2_with (go_at_call 91; (with_reducible refine HC.out.mono ?_); rintro e w2 ⟨rfl, m, rfl⟩)
        go_roundw
        case rel =>
          refine ⟨2, _, _, by omega, rfl, rfl, by omega, ?_, HBr.out.trans (below_drewN _ _ _)⟩
          rw [cat_data, HO.out]
          show 102 :: (hexN 2 (u / 72057594037927936) ++ hh) = 102 :: hexN 4 (u / 281474976710656)
          rw [HST.out]
        case measure => simp [intOf]
      by_cases hjj : j = 2
      · subst hjj
        obtain rfl : kk = 40 := by omega
        clear hkk hj
        have hc : IntKind.u8.wrap (b / 1099511627776) = ((UInt8.ofNat (u / 1099511627776 % 256)).toNat : Int) := by
          rw [HBU.out, UInt8.toNat_ofNat', IntKind.wrap_u8']
          show _ = ((u / 1099511627776 % 256 % 256 : Nat) : Int)
          omega
        have hst := hexN_step 4 (u / 1099511627776)
        rw [show u / 1099511627776 / 256 = u / 281474976710656 by omega] at hst
        have HST := Lib.hid hst
        clear hst
        have HC := Lib.hid (hexR (UInt8.ofNat (u / 1099511627776 % 256)) wr)
        have hl2 : (hex2 (UInt8.ofNat (u / 1099511627776 % 256))).length = 2 := rfl
        generalize UInt8.ofNat (u / 1099511627776 % 256) = cc at *
        generalize hex2 cc = hh at *
        have n1 : ¬ 9223372036854775807 < o.size + hh.length := by omega
        clear hl2
        go_wp2_with (go_at_call 91; (with_reducible refine HC.out.mono ?_); rintro e w2 ⟨rfl, m, rfl⟩)
        go_roundw
        case rel =>
          refine ⟨3, _, _, by omega, rfl, rfl, by omega, ?_, HBr.out.trans (below_drewN _ _ _)⟩
          rw [cat_data, HO.out]
          show 102 :: (hexN 4 (u / 281474976710656) ++ hh) = 102 :: hexN 6 (u / 1099511627776)
          rw [HST.out]
        case measure => simp [intOf]
      by_cases hjj : j = 3
      · subst hjj
        obtain rfl : kk = 32 := by omega
        clear hkk hj
        have hc : IntKind.u8.wrap (b / 4294967296) = ((UInt8.ofNat (u / 4294967296 % 256)).toNat : Int) := by
          rw [HBU.out, UInt8.toNat_ofNat', IntKind.wrap_u8']
          show _ = ((u / 4294967296 % 256 % 256 : Nat) : Int)
          omega
        have hst := hexN_step 6 (u / 4294967296)
        rw [show u / 4294967296 / 256 = u / 1099511627776 by omega] at hst
        have HST := Lib.hid hst
        clear hst
        have HC := Lib.hid (hexR (UInt8.ofNat (u / 4294967296 % 256)) wr)
        have hl2 : (hex2 (UInt8.ofNat (u / 4294967296 % 256))).length = 2 := rfl
        generalize UInt8.ofNat (u / 4294967296 % 256) = cc at *
        generalize hex2 cc = hh at *
        have n1 : ¬ 9223372036854775807 < o.size + hh.length := by omega
        clear hl2
        go_wp2_with (go_at_call 91; (with_reducible refine HC.out.mono ?_); rintro e w2 ⟨rfl, m, rfl⟩)
        go_roundw
        case rel =>
          refine ⟨4, _, _, by omega, rfl, rfl, by omega, ?_, HBr.out.trans (below_drewN _ _ _)⟩
          rw [cat_data, HO.out]
          show 102 :: (hexN 6 (u / 1099511627776) ++ hh) = 102 :: hexN 8 (u / 4294967296)
          rw [HST.out]
        case measure => simp [intOf]
      by_cases hjj : j = 4
      · subst hjj
        obtain rfl : kk = 24 := by omega
        clear hkk hj
        have hc : IntKind.u8.wrap (b / 16777216) = ((UInt8.ofNat (u / 16777216 % 256)).toNat : Int) := by
          rw [HBU.out, UInt8.toNat_ofNat', IntKind.wrap_u8']
          show _ = ((u / 16777216 % 256 % 256 : Nat) : Int)
          omega
        have hst := hexN_step 8 (u / 16777216)
        rw [show u / 16777216 / 256 = u / 4294967296 by omega] at hst
        have HST := Lib.hid hst
        clear hst
        have HC := Lib.hid (hexR (UInt8.ofNat (u / 16777216 % 256)) wr)
        have hl2 : (hex2 (UInt8.ofNat (u / 16777216 % 256))).length = 2 := rfl
        generalize UInt8.ofNat (u / 16777216 % 256) = cc at *
        generalize hex2 cc = hh at *
        have n1 : ¬ 9223372036854775807 < o.size + hh.length := by omega
        clear hl2
        go_wp2_with (go_at_call 91; (with_reducible refine HC.out.mono ?_); rintro e w2 ⟨rfl, m, rfl⟩)
        go_roundw
        case rel =>
          refine ⟨5, _, _, by omega, rfl, rfl, by omega, ?_, HBr.out.trans (below_drewN _ _ _)⟩
          rw [cat_data, HO.out]
          show 102 :: (hexN 8 (u / 4294967296) ++ hh) = 102 :: hexN 10 (u / 16777216)
          rw [HST.out]
        case measure => simp [intOf]
      by_cases hjj : j = 5
      · subst hjj
        obtain rfl : kk = 16 := by omega
        clear hkk hj
        have hc : IntKind.u8.wrap (b / 65536) = ((UInt8.ofNat (u / 65536 % 256)).toNat : Int) := by
          rw [HBU.out, UInt8.toNat_ofNat', IntKind.wrap_u8']
          show _ = ((u / 65536 % 256 % 256 : Nat) : Int)
          omega
        have hst := hexN_step 10 (u / 65536)
        rw [show u / 65536 / 256 = u / 16777216 by omega] at hst
        have HST := Lib.hid hst
        clear hst
        have HC := Lib.hid (hexR (UInt8.ofNat (u / 65536 % 256)) wr)
        have hl2 : (hex2 (UInt8.ofNat (u / 65536 % 256))).length = 2 := rfl
        generalize UInt8.ofNat (u / 65536 % 256) = cc at *
        generalize hex2 cc = hh at *
        have n1 : ¬ 9223372036854775807 < o.size + hh.length := by omega
        clear hl2
        go_wp2_with (go_at_call 91; (with_reducible refine HC.out.mono ?_); rintro e w2 ⟨rfl, m, rfl⟩)
        go_roundw
        case rel =>
          refine ⟨6, _, _, by omega, rfl, rfl, by omega, ?_, HBr.out.trans (below_drewN _ _ _)⟩
          rw [cat_data, HO.out]
          show 102 :: (hexN 10 (u / 16777216) ++ hh) = 102 :: hexN 12 (u / 65536)
          rw [HST.out]
        case measure => simp [intOf]
      by_cases hjj : j = 6
      · subst hjj
        obtain rfl : kk = 8 := by omega
        clear hkk hj
        have hc : IntKind.u8.wrap (b / 256) = ((UInt8.ofNat (u / 256 % 256)).toNat : Int) := by
          rw [HBU.out, UInt8.toNat_ofNat', IntKind.wrap_u8']
          show _ = ((u / 256 % 256 % 256 : Nat) : Int)
          omega
        have hst := hexN_step 12 (u / 256)
        rw [show u / 256 / 256 = u / 65536 by omega] at hst
        have HST := Lib.hid hst
        clear hst
        have HC := Lib.hid (hexR (UInt8.ofNat (u / 256 % 256)) wr)
        have hl2 : (hex2 (UInt8.ofNat (u / 256 % 256))).length = 2 := rfl
        generalize UInt8.ofNat (u / 256 % 256) = cc at *
        generalize hex2 cc = hh at *
        have n1 : ¬ 9223372036854775807 < o.size + hh.length := by omega
        clear hl2
        go_wp2_with (go_at_call 91; (with_reducible refine HC.out.mono ?_); rintro e w2 ⟨rfl, m, rfl⟩)
        go_roundw
        case rel =>
          refine ⟨7, _, _, by omega, rfl, rfl, by omega, ?_, HBr.out.trans (below_drewN _ _ _)⟩
          rw [cat_data, HO.out]
          show 102 :: (hexN 12 (u / 65536) ++ hh) = 102 :: hexN 14 (u / 256)
          rw [HST.out]
        case measure => simp [intOf]
      by_cases hjj : j = 7
      · subst hjj
        obtain rfl : kk = 0 := by omega
        clear hkk hj
        have hc : IntKind.u8.wrap b = ((UInt8.ofNat (u / 1 % 256)).toNat : Int) := by
          rw [HBU.out, UInt8.toNat_ofNat', IntKind.wrap_u8']
          show _ = ((u / 1 % 256 % 256 : Nat) : Int)
          omega
        have hst := hexN_step 14 (u / 1)
        rw [show u / 1 / 256 = u / 256 by omega] at hst
        have HST := Lib.hid hst
        clear hst
        have HC := Lib.hid (hexR (UInt8.ofNat (u / 1 % 256)) wr)
        have hl2 : (hex2 (UInt8.ofNat (u / 1 % 256))).length = 2 := rfl
        generalize UInt8.ofNat (u / 1 % 256) = cc at *
        generalize hex2 cc = hh at *
        have n1 : ¬ 9223372036854775807 < o.size + hh.length := by omega
        clear hl2
        go_wp2_with (go_at_call 91; (with_reducible refine HC.out.mono ?_); rintro e w2 ⟨rfl, m, rfl⟩)
        go_roundw
        case rel =>
          refine ⟨8, _, _, by omega, rfl, rfl, by omega, ?_, HBr.out.trans (below_drewN _ _ _)⟩
          rw [cat_data, HO.out]
          show 102 :: (hexN 14 (u / 256) ++ hh) = 102 :: hexN 16 (u / 1)
          rw [HST.out]
        case measure => simp [intOf]
      obtain rfl : j = 8 := by omega
      obtain rfl : kk = -8 := by omega
      clear hkk hj
      go_wp2_with fail
      go_ret
      refine ⟨?_, HB.out.trans (HBr.out.mono HB.out.size)⟩
      show _ = Ending.returned (Value.string ⟨(102 :: hexN 16 b.toNat).toArray⟩)
      rw [show b.toNat = u by rw [HBU.out]; rfl]
      rw [show (102 :: hexN 16 u) = o.data.toList by rw [HO.out]; simp, Lib.mk_data]
      rfl
  by_cases hk : k = 4
  · subst hk
    have HC := Lib.hid (quotedR (s := ⟨t.toArray⟩) (by show t.length ≤ _; omega) w1)
    go_wp2_with (go_at_call 92; (with_reducible refine HC.out.mono ?_); rintro e w2 ⟨rfl, hb2⟩)
    go_ret
    exact ⟨rfl, HB.out.trans (hb2.mono HB.out.size)⟩
  by_cases hk : k = 5
  · subst hk
    have HC := Lib.hid (quotedR (s := ⟨t.toArray⟩) (by show t.length ≤ _; omega) w1)
    have hql := quoteM_len t
    have n1 : ¬ 9223372036854775807 < 1 + (quoteM t).length := by omega
    go_wp2_with (go_at_call 92; (with_reducible refine HC.out.mono ?_); rintro e w2 ⟨rfl, hb2⟩)
    go_ret
    exact ⟨by show _ = Ending.returned (Value.string ⟨(64 :: quoteM t).toArray⟩); rw [show (64 :: quoteM t) = ((⟨#[64]⟩ : ByteArray) ++ ⟨(quoteM t).toArray⟩).data.toList by rw [cat_data]; rfl, Lib.mk_data]; rfl, HB.out.trans (hb2.mono HB.out.size)⟩
  by_cases hk : k = 6
  · subst hk
    cases hi1 : (i == 1)
    · have hone : oneM 6 i b t (rowP true kids) = [102, 97, 108, 115, 101] := by simp [oneM]; simpa using hi1
      have HONE := Lib.hid hone
      clear hone
      go_wp2_with fail
      go_ret
      exact ⟨by rw [HONE.out]; rfl, HB.out⟩
    · have hone : oneM 6 i b t (rowP true kids) = [116, 114, 117, 101] := by simp [oneM]; simpa using hi1
      have HONE := Lib.hid hone
      clear hone
      go_wp2_with fail
      go_ret
      exact ⟨by rw [HONE.out]; rfl, HB.out⟩
  by_cases hk : k = 7
  · subst hk
    obtain ⟨s9, hs9⟩ : ∃ s9 : ByteArray, s9 = ⟨t.toArray⟩ := ⟨_, rfl⟩
    have hst : s9.data.toList = t := by rw [hs9]
    have hsz9 : s9.size ≤ 2000000000 := by rw [Lib.size_eq, hst]; omega
    rw [← hs9] at x3
    have HST := Lib.hid hst
    have HSZ9 := Lib.hid hsz9
    have HSE := Lib.hid (Lib.size_eq s9)
    clear hs9 hst hsz9
    go_wp2_with fail
    go_loopw [5, 6] (fun t5 t6 wr => PyRel s9 w1 t5 t6 wr) (fun _ t6 _ => s9.size - (intOf t6).toNat)
    case atStart => exact ⟨0, _, Nat.zero_le _, rfl, rfl, rfl, Below.refl _ _⟩
    case round =>
      obtain ⟨j, o, hj, rfl, rfl, ho, hb⟩ := hrel
      have HO := Lib.hid ho
      have HBr := Lib.hid hb
      have x3' := cellAt hb x3
      have hol : o.size = 1 + 2 * j := by
        rw [Lib.size_eq, ho, List.length_cons, pairs_len, List.length_take, ← HSE.out]
        omega
      clear ho hb x3
      by_cases h1 : j < s9.size
      · have h1i : (j : Int) < (s9.size : Int) := by omega
        have hjl : j < s9.data.toList.length := by rw [← HSE.out]; exact h1
        have hgl : s9.data.toList[j]'hjl = s9[j] := by simp [ByteArray.getElem_eq_getElem_data]
        have hpn : pairsM (s9.data.toList.take (j + 1)) = pairsM (s9.data.toList.take j) ++ hex2 s9[j] := by
          rw [List.take_add_one, List.getElem?_eq_getElem hjl, hgl]
          simp [pairsM]
        have HPN := Lib.hid hpn
        have HC := Lib.hid (hexR s9[j] wr)
        have hl2 : (hex2 s9[j]).length = 2 := rfl
        have HSZJ := HSZ9.out
        clear hgl hpn
        generalize hex2 s9[j] = hh at *
        have n1 : ¬ 9223372036854775807 < o.size + hh.length := by omega
        clear hl2
        go_wp2_with (go_at_call 91; (with_reducible refine HC.out.mono ?_); rintro e w2 ⟨rfl, m, rfl⟩)
        refine ⟨⟨j + 1, _, by omega, rfl, by go_num, ?_, HBr.out.trans (below_drewN _ _ _)⟩, by simp [intOf]; omega⟩
        rw [HPN.out, cat_data, HO.out]
        rfl
      · have hje : j = s9.size := by omega
        have h1i : ¬ (j : Int) < (s9.size : Int) := by omega
        have hpe : pairsM (s9.data.toList.take j) = pairsM t := by rw [hje, List.take_of_length_le (by rw [← HSE.out]; exact Nat.le_refl _), HST.out]
        have HPE := Lib.hid hpe
        clear hpe
        go_wp2_with fail
        go_ret
        refine ⟨?_, HB.out.trans (HBr.out.mono HB.out.size)⟩
        show _ = Ending.returned (Value.string ⟨(37 :: pairsM t).toArray⟩)
        rw [← HPE.out, ← HO.out, Lib.mk_data]
        rfl
  by_cases hk : k = 8
  · subst hk
    have HC := Lib.hid (rrowN hall (hF.same (w' := w1) (fun x hx hlt => HB.out.block x hlt) (fun x hx _ => hx)) (fun x hx => Nat.lt_of_lt_of_le (hS x hx) HB.out.size) HLW.out hrk hkp (by omega))
    have hrl := rowP_len kids true
    have n1 : ¬ 9223372036854775807 < 1 + (rowP true kids).length := by omega
    have n2 : ¬ 9223372036854775807 < 1 + (rowP true kids).length + 1 := by omega
    go_wp2_with (go_at_call 93; (with_reducible refine HC.out.mono ?_); rintro e w2 ⟨rfl, hb2⟩)
    go_ret
    exact ⟨by show _ = Ending.returned (Value.string ⟨(91 :: (rowP true kids ++ [93])).toArray⟩); rw [show (91 :: (rowP true kids ++ [93])) = ((⟨#[91]⟩ : ByteArray) ++ ⟨(rowP true kids).toArray⟩ ++ ⟨#[93]⟩).data.toList by rw [cat_data, cat_data]; rfl, Lib.mk_data]; rfl, HB.out.trans (hb2.mono HB.out.size)⟩
  by_cases hk : k = 9
  · subst hk
    have HC := Lib.hid (rrowN hall (hF.same (w' := w1) (fun x hx hlt => HB.out.block x hlt) (fun x hx _ => hx)) (fun x hx => Nat.lt_of_lt_of_le (hS x hx) HB.out.size) HLW.out hrk hkp (by omega))
    have hrl := rowP_len kids true
    have n1 : ¬ 9223372036854775807 < 1 + (rowP true kids).length := by omega
    have n2 : ¬ 9223372036854775807 < 1 + (rowP true kids).length + 1 := by omega
    go_wp2_with (go_at_call 93; (with_reducible refine HC.out.mono ?_); rintro e w2 ⟨rfl, hb2⟩)
    go_ret
    exact ⟨by show _ = Ending.returned (Value.string ⟨(40 :: (rowP true kids ++ [41])).toArray⟩); rw [show (40 :: (rowP true kids ++ [41])) = ((⟨#[40]⟩ : ByteArray) ++ ⟨(rowP true kids).toArray⟩ ++ ⟨#[41]⟩).data.toList by rw [cat_data, cat_data]; rfl, Lib.mk_data]; rfl, HB.out.trans (hb2.mono HB.out.size)⟩
  by_cases hk : k = 10
  · subst hk
    have HC1 := Lib.hid (fun (wx : World) (hx : Below w1.heap.size w1 wx) => digitsR HR.out.1 HR.out.2 (HLW.out.below hx HLW.out.size))
    have HC2 := Lib.hid (fun (wx : World) => quotedR (s := ⟨t.toArray⟩) (by show t.length ≤ _; omega) wx)
    have hql := quoteM_len t
    have n1 : ¬ 9223372036854775807 < 1 + (dec i).length := by omega
    have n2 : ¬ 9223372036854775807 < 1 + (dec i).length + (quoteM t).length := by omega
    go_wp2_with fail
    go_region_held3 (fun wx : World => wx.cell? ⟨p, 1, none⟩ = some (.int .i64 i) ∧ wx.cell? ⟨p, 3, none⟩ = some (.string ⟨t.toArray⟩) ∧ wx.cell? ⟨p, 4, none⟩ = some (.slice l n c))
      (first | exact HKEEP.out _ (Below.refl _ _) | exact HKEEP.out _ (Below.refl _ _).drew | exact HKEEP.out _ HBA.out | exact HKEEP.out _ HBB.out)
      (first
        | (go_simp; go_at_call 90; refine (HC1.out _ (Below.refl _ _).drew).mono ?_; rintro eA wA ⟨rfl, hbA⟩; have HBA := Lib.hid ((Below.refl w1.heap.size w1).drew.trans hbA); clear hbA)
        | (go_simp; go_at_call 92; refine (HC2.out _).mono ?_; rintro eB wB ⟨rfl, hbB⟩; have HBB := Lib.hid (HBA.out.trans (hbB.mono HBA.out.size)); clear hbB))
    all_goals
      go_wp2_with fail
      go_ret
      exact ⟨by show _ = Ending.returned (Value.string ⟨(33 :: (dec i ++ quoteM t)).toArray⟩); rw [show (33 :: (dec i ++ quoteM t)) = ((⟨#[33]⟩ : ByteArray) ++ ⟨(dec i).toArray⟩ ++ ⟨(quoteM t).toArray⟩).data.toList by rw [cat_data, cat_data]; rfl, Lib.mk_data]; rfl, HB.out.trans (HBB.out.mono HB.out.size)⟩
  by_cases hk : k = 11
  · subst hk
    have hk1 : kids.len = 1 := by
      simp [fitsM] at hfit
      exact hfit.2
    obtain ⟨k2, i2, b2, t2, ks, rfl⟩ : ∃ k2 i2 b2 t2 ks, kids = .cons k2 i2 b2 t2 ks .nil := by
      cases kids with
      | nil => cases hk1
      | cons k2 i2 b2 t2 ks r =>
        have hr0 : r.len = 0 := by simpa [Fo.len] using hk1
        rw [len_zero hr0]
        exact ⟨_, _, _, _, _, rfl⟩
    have hF1 := hF.same (w' := w1) (fun x hx hlt => HB.out.block x hlt) (fun x hx _ => hx)
    obtain ⟨bb, off, a2, n2, cp2, rfl, hkF, e0, e1, e2, e3, e4, hnb, hjn⟩ := FoAt.elem (dn := .nil) hF1
    replace hjn : 0 < n := hjn
    replace e0 : w1.cell? ⟨bb, off, none⟩ = _ := e0
    replace e1 : w1.cell? ⟨bb, off + 1, none⟩ = _ := e1
    replace e2 : w1.cell? ⟨bb, off + 2, none⟩ = _ := e2
    replace e3 : w1.cell? ⟨bb, off + 3, none⟩ = _ := e3
    replace e4 : w1.cell? ⟨bb, off + 4, none⟩ = _ := e4
    simp only [rightM, Bool.and_eq_true] at hrk
    obtain ⟨hkp1, hkp2, _⟩ := hkp
    simp only [Fo.wt] at hw
    have hrl := rowP_len ks true
    have hon := oneM_len k2 i2 b2 t2 (rowP true ks)
    have hrw : rowP true (.cons k2 i2 b2 t2 ks .nil) = oneM k2 i2 b2 t2 (rowP true ks) := by simp [rowP]
    have HRW := Lib.hid hrw
    have HC1 := Lib.hid (fun (wx : World) (hx : Below w1.heap.size w1 wx) => digitsR HR.out.1 HR.out.2 (HLW.out.below hx HLW.out.size))
    have HC2 := Lib.hid (fun (wx : World) (hx : Below w1.heap.size w1 wx) => hall.1 k2 i2 b2 t2 a2 n2 cp2 S wx (hkF.same (w' := wx) (fun x hx2 hlt => hx.block x hlt) (fun x hx2 _ => hx2)) (fun x hx2 => Nat.lt_of_lt_of_le (hS x hx2) (Nat.le_trans HB.out.size hx.size)) (HLW.out.below hx HLW.out.size) hrk.1.1 hrk.1.2 hkp1 hkp2 (by omega))
    have n1 : ¬ 9223372036854775807 < 1 + (dec i).length := by omega
    have n2' : ¬ 9223372036854775807 < 1 + (dec i).length + 1 := by omega
    have n3 : ¬ 9223372036854775807 < 1 + (dec i).length + 1 + (oneM k2 i2 b2 t2 (rowP true ks)).length := by omega
    have n4 : ¬ 9223372036854775807 < 1 + (dec i).length + 1 + (oneM k2 i2 b2 t2 (rowP true ks)).length + 1 := by omega
    have HKEEP2 := Lib.hid (show ∀ wx, Below w1.heap.size w1 wx → (wx.cell? ⟨p, 1, none⟩ = some (.int .i64 i) ∧ wx.cell? ⟨p, 4, none⟩ = some (.slice (some ⟨bb, off, none⟩) n c)) ∧ (wx.cell? ⟨bb, off, none⟩ = some (.int .i64 k2) ∧ wx.cell? ⟨bb, off + 1, none⟩ = some (.int .i64 i2) ∧ wx.cell? ⟨bb, off + 2, none⟩ = some (.int .u64 b2) ∧ wx.cell? ⟨bb, off + 3, none⟩ = some (.string ⟨t2.toArray⟩) ∧ wx.cell? ⟨bb, off + 4, none⟩ = some (.slice a2 n2 cp2)) from
      fun wx hx => ⟨⟨(HKEEP.out wx hx).1, (HKEEP.out wx hx).2.2⟩, ⟨cellAt hx e0, cellAt hx e1, cellAt hx e2, cellAt hx e3, cellAt hx e4⟩⟩)
    generalize oneM k2 i2 b2 t2 (rowP true ks) = ot at *
    have hj1 : (0 : Int) < (n : Int) := by omega
    clear hkF hF1 hF hrk hon hall hrl hrw HKEEP hk1 hfit
    go_wp2_with fail
    go_region_held3 (fun wx : World => (wx.cell? ⟨p, 1, none⟩ = some (.int .i64 i) ∧ wx.cell? ⟨p, 4, none⟩ = some (.slice (some ⟨bb, off, none⟩) n c)) ∧ (wx.cell? ⟨bb, off, none⟩ = some (.int .i64 k2) ∧ wx.cell? ⟨bb, off + 1, none⟩ = some (.int .i64 i2) ∧ wx.cell? ⟨bb, off + 2, none⟩ = some (.int .u64 b2) ∧ wx.cell? ⟨bb, off + 3, none⟩ = some (.string ⟨t2.toArray⟩) ∧ wx.cell? ⟨bb, off + 4, none⟩ = some (.slice a2 n2 cp2)))
      (first | exact HKEEP2.out _ (Below.refl _ _) | exact HKEEP2.out _ (Below.refl _ _).drew | exact HKEEP2.out _ HBA.out | exact HKEEP2.out _ HBB.out)
      (first
        | (go_simp; go_at_call 90; refine (HC1.out _ (Below.refl _ _).drew).mono ?_; rintro eA wA ⟨rfl, hbA⟩; have HBA := Lib.hid ((Below.refl w1.heap.size w1).drew.trans hbA); clear hbA)
        | (go_simp; go_at_call 62; refine (HC2.out _ HBA.out).mono ?_; rintro eB wB ⟨rfl, hbB⟩; have HBB := Lib.hid (HBA.out.trans (hbB.mono HBA.out.size)); clear hbB))
    all_goals
      go_wp2_with fail
      go_ret
      refine ⟨?_, HB.out.trans (HBB.out.mono HB.out.size)⟩
      rw [HRW.out]
      show _ = Ending.returned (Value.string ⟨(38 :: (dec i ++ 40 :: (ot ++ [41]))).toArray⟩)
      rw [show (38 :: (dec i ++ 40 :: (ot ++ [41]))) = ((⟨#[38]⟩ : ByteArray) ++ ⟨(dec i).toArray⟩ ++ ⟨#[40]⟩ ++ ⟨ot.toArray⟩ ++ ⟨#[41]⟩).data.toList by rw [cat_data, cat_data, cat_data, cat_data]; simp, Lib.mk_data]
      rfl
  by_cases hk : k = 12
  · subst hk
    go_wp2_with fail
    go_ret
    exact ⟨rfl, HB.out⟩
  by_cases hk : k = 13
  · subst hk
    go_wp2_with fail
    go_ret
    exact ⟨rfl, HB.out⟩
  exact absurd (fits_range hfit) (by omega)
end Go.Proofs.YtbldidiibkcelaaGreatDoor


/-
  DatumPrints (walk). Not a statement of the seat.
-/
namespace Go.Proofs.YtbldidiibkcelaaGreatDoor
open Go.RowKit

theorem rprintAll : ∀ f : Fo, f.All RPOK
  | .nil => trivial
  | .cons _ _ _ _ kids rest => ⟨rprintN (rprintAll kids), rprintAll rest⟩
theorem rprintG (kids : Fo) : RPOK kids := rprintN (rprintAll kids)
section
variable {S : Nat → Prop} {w wx : World} {d : Dt} {l : Option Addr} {n c : Nat}
end

end Go.Proofs.YtbldidiibkcelaaGreatDoor


