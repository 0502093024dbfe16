/-
What RowSMatches leans on, part 3: the texts of this seat, merged.
-/
import Derived.Test.YteleheamnighkaaDoorMSMatchesb
import Derived.Shelf.Strings.Builder1
import Derived.Shelf.Small.Strs
import Derived.Shelf.Strconv.Itoa3
import Derived.Shelf.Strings.Search1
import Derived.Shelf.Strings.SlTrimAscii
import Derived.Shelf.Bits.Mul64
import Derived.Test.YteleheamnighkaaDoorProg
import Derived.Lib.ItoaNum
import Derived.Deep.QuietTactic
import Derived.BigQuiet
import Derived.LoopTactic
import Derived.Outline
import Derived.Lib.Strings
import Derived.Lib.ItoaLen
import Derived.Lib.AppendIntMem
import Derived.Laws.MakeOwn
import Derived.Below
import Derived.Deep.Draws
import Derived.Deep.AppendLies
import Derived.Maps.AppendAt
import Derived.OwnWalk
import Derived.Laws.BytesArg
import Derived.Laws.OwnMore
import Derived.Deep.OwnRows
import Derived.Tactics
import Derived.Lib.ConvBytes
import Derived.Laws.Slices
import Derived.WalkKit
import Derived.KernelRfl
import Derived.RowKit3
import Derived.Deep.LoopGhost
import Derived.WideLaws
import Derived.Deep.DeepCutAuto
import Derived.Deep.CutBlock
import Derived.Deep.RegionHeld3
import Derived.Laws.Rows
import Derived.Lib.AppendStr
import Derived.ArgAppend
import Derived.Laws.IdiomCopy
import Derived.OrdersHeld
import Derived.Laws.BitsLemmas
import Derived.RowKit
section
namespace Go.Proofs
open Go.Shelf
def Tryd.lays169_ren : Go.Shelf.Ren := ⟨fun | 169 => 44 | n => n, fun | 70 => 62 | 9 => 9 | 0 => 0 | 72 => 64 | 37 => 56 | 127 => 89 | 3 => 3 | 5 => 5 | n => n, fun | n => n⟩
theorem Tryd.lays169 : Go.Proofs.Lays.n169 Tryd.prog Tryd.lays169_ren := {
  mixed := by kernel_rfl
  f169 := Tryd.func44.trans (congrArg some (by kernel_rfl))
  t0 := Tryd.underlying0
  a0 := Tryd.isAgg0
  z0 := Tryd.sizeOf0
  v0 := Tryd.zeroValue0
  t3 := Tryd.underlying3
  a3 := Tryd.isAgg3
  z3 := Tryd.sizeOf3
  v3 := Tryd.zeroValue3
  t9 := Tryd.underlying9
  a9 := Tryd.isAgg9
  z9 := Tryd.sizeOf9
  v9 := Tryd.zeroValue9
  t37 := Tryd.underlying56
  a37 := Tryd.isAgg56
  z37 := Tryd.sizeOf56
  v37 := Tryd.zeroValue56
  t70 := Tryd.underlying62
  a70 := Tryd.isAgg62
  z70 := Tryd.sizeOf62
  v70 := Tryd.zeroValue62
  t72 := Tryd.underlying64
  a72 := Tryd.isAgg64
  z72 := Tryd.sizeOf64
  v72 := Tryd.zeroValue64
  t127 := Tryd.underlying89
  a127 := Tryd.isAgg89
  z127 := Tryd.sizeOf89
  v127 := Tryd.zeroValue89 }
theorem Tryd.Builder_Extra_169 : Builder.Extra Tryd.prog Tryd.lays169_ren := {
  sizeBuilder := by kernel_rfl
  liesBuilder := by kernel_rfl
  t5 := Tryd.underlying5
  a5 := Tryd.isAgg5
  z5 := Tryd.sizeOf5
  v5 := Tryd.zeroValue5
  infoByte := by kernel_rfl
  cellsByte := by kernel_rfl
  sizeByte := by kernel_rfl
  neB5 := by decide }
open Go.RowKit in
open Go.RowKit in
open Go.RowKit in
theorem Tryd.Builder_String_any (B b : Nat) (l : List UInt8) (w : World) (h : Lib.IsBuilder 64 5 B b (Lib.byteCells l) w) (hBw : B ≤ w.heap.size) :
    Calls Tryd.prog 44 #[.pointer (some ⟨b, 0, none⟩)] w fun e w' => e = .returned (.string ⟨l.toArray⟩) ∧ Below B w w' := Any.Builder_String_any Tryd.lays169 Tryd.Builder_Extra_169 B b l w h hBw
def Tryd.lays137_ren : Go.Shelf.Ren := ⟨fun | 137 => 84 | 217 => 93 | 266 => 101 | n => n, fun | 9 => 9 | 5 => 5 | 3 => 3 | n => n, fun | n => n⟩
theorem Tryd.lays137 : Go.Proofs.Lays.n137 Tryd.prog Tryd.lays137_ren := {
  mixed := by kernel_rfl
  f137 := Tryd.func84.trans (congrArg some (by kernel_rfl))
  f217 := Tryd.func93.trans (congrArg some (by kernel_rfl))
  f266 := Tryd.func101.trans (congrArg some (by kernel_rfl))
  t3 := Tryd.underlying3
  a3 := Tryd.isAgg3
  z3 := Tryd.sizeOf3
  v3 := Tryd.zeroValue3
  t5 := Tryd.underlying5
  a5 := Tryd.isAgg5
  z5 := Tryd.sizeOf5
  v5 := Tryd.zeroValue5
  t9 := Tryd.underlying9
  a9 := Tryd.isAgg9
  z9 := Tryd.sizeOf9
  v9 := Tryd.zeroValue9 }
open Go.RowKit in
theorem Tryd.strings_IndexByte (s : ByteArray) (c : Int) (w : World) :
    Calls Tryd.prog 84 #[.string s, .int .u8 c] w fun e w' => e = .returned (.int .i64 (Lib.indexByte s.data.toList c.toNat.toUInt8)) ∧ w' = w := Any.strings_IndexByte Tryd.lays137 s c w
def Tryd.laysM171_ren : Go.Shelf.Ren := ⟨fun | 171 => 43 | 243 => 70 | 246 => 87 | 283 => 94 | 284 => 95 | 285 => 96 | 286 => 97 | 129 => 103 | 317 => 102 | 318 => 104 | 319 => 105 | 320 => 106 | 337 => 110 | 338 => 111 | n => n, fun | 3 => 3 | 9 => 9 | 2 => 2 | 4 => 4 | 171 => 111 | 0 => 0 | 53 => 54 | 37 => 56 | 5 => 5 | 173 => 114 | 212 => 118 | 51 => 119 | 20 => 20 | 213 => 120 | 46 => 57 | 232 => 130 | 233 => 131 | n => n, fun | 17 => 0 | 18 => 4 | 19 => 5 | n => n⟩
theorem Tryd.laysM171 : Go.Proofs.LaysM.n171 Tryd.prog Tryd.laysM171_ren := {
  mixed := by kernel_rfl
  f129 := Tryd.func103.trans (congrArg some (by kernel_rfl))
  f171 := Tryd.func43.trans (congrArg some (by kernel_rfl))
  f243 := Tryd.func70.trans (congrArg some (by kernel_rfl))
  f246 := Tryd.func87.trans (congrArg some (by kernel_rfl))
  f283 := Tryd.func94.trans (congrArg some (by kernel_rfl))
  f284 := Tryd.func95.trans (congrArg some (by kernel_rfl))
  f285 := Tryd.func96.trans (congrArg some (by kernel_rfl))
  f286 := Tryd.func97.trans (congrArg some (by kernel_rfl))
  f317 := Tryd.func102.trans (congrArg some (by kernel_rfl))
  f318 := Tryd.func104.trans (congrArg some (by kernel_rfl))
  f319 := Tryd.func105.trans (congrArg some (by kernel_rfl))
  f320 := Tryd.func106.trans (congrArg some (by kernel_rfl))
  f337 := Tryd.func110.trans (congrArg some (by kernel_rfl))
  f338 := Tryd.func111.trans (congrArg some (by kernel_rfl))
  t0 := Tryd.underlying0
  a0 := Tryd.isAgg0
  z0 := Tryd.sizeOf0
  v0 := Tryd.zeroValue0
  t2 := Tryd.underlying2
  a2 := Tryd.isAgg2
  z2 := Tryd.sizeOf2
  v2 := Tryd.zeroValue2
  t3 := Tryd.underlying3
  a3 := Tryd.isAgg3
  z3 := Tryd.sizeOf3
  v3 := Tryd.zeroValue3
  t4 := Tryd.underlying4
  a4 := Tryd.isAgg4
  z4 := Tryd.sizeOf4
  v4 := Tryd.zeroValue4
  t5 := Tryd.underlying5
  a5 := Tryd.isAgg5
  z5 := Tryd.sizeOf5
  v5 := Tryd.zeroValue5
  t9 := Tryd.underlying9
  a9 := Tryd.isAgg9
  z9 := Tryd.sizeOf9
  v9 := Tryd.zeroValue9
  t20 := Tryd.underlying20
  a20 := Tryd.isAgg20
  z20 := Tryd.sizeOf20
  v20 := Tryd.zeroValue20
  t37 := Tryd.underlying56
  a37 := Tryd.isAgg56
  z37 := Tryd.sizeOf56
  v37 := Tryd.zeroValue56
  t46 := Tryd.underlying57
  a46 := Tryd.isAgg57
  z46 := Tryd.sizeOf57
  v46 := Tryd.zeroValue57
  t51 := Tryd.underlying119
  a51 := Tryd.isAgg119
  z51 := Tryd.sizeOf119
  v51 := Tryd.zeroValue119
  t53 := Tryd.underlying54
  a53 := Tryd.isAgg54
  z53 := Tryd.sizeOf54
  v53 := Tryd.zeroValue54
  t171 := Tryd.underlying111
  a171 := Tryd.isAgg111
  z171 := Tryd.sizeOf111
  v171 := Tryd.zeroValue111
  t173 := Tryd.underlying114
  a173 := Tryd.isAgg114
  z173 := Tryd.sizeOf114
  v173 := Tryd.zeroValue114
  t212 := Tryd.underlying118
  a212 := Tryd.isAgg118
  z212 := Tryd.sizeOf118
  v212 := Tryd.zeroValue118
  t213 := Tryd.underlying120
  a213 := Tryd.isAgg120
  z213 := Tryd.sizeOf120
  t232 := Tryd.underlying130
  a232 := Tryd.isAgg130
  z232 := Tryd.sizeOf130
  v232 := Tryd.zeroValue130
  t233 := Tryd.underlying131
  a233 := Tryd.isAgg131
  z233 := Tryd.sizeOf131
  v233 := Tryd.zeroValue131
  g17 := by kernel_rfl
  g18 := by kernel_rfl
  g19 := by kernel_rfl
  i0 := by kernel_rfl
  i2 := by kernel_rfl
  i3 := by kernel_rfl
  i4 := by kernel_rfl
  i5 := by kernel_rfl
  i9 := by kernel_rfl
  i20 := by kernel_rfl
  i37 := by kernel_rfl
  i46 := by kernel_rfl
  i51 := by kernel_rfl
  i53 := by kernel_rfl
  i171 := by kernel_rfl
  i173 := by kernel_rfl
  i212 := by kernel_rfl
  i232 := by kernel_rfl
  i233 := by kernel_rfl
  m17 := by kernel_rfl
  m18 := by kernel_rfl
  m19 := by kernel_rfl }
open Go.RowKit Go.Sort Go.Lib in
theorem Tryd.strconv_Itoa (n : Int) (h0 : -9223372036854775808 ≤ n) (h1 : n ≤ 9223372036854775807) (w : World) (htab : Lib.TabIs Tryd.prog w "internal/strconv.uint64pow10" .u64 Lib.pow10Tab) :
    Calls Tryd.prog 43 #[.int .i64 n] w fun e w' => e = .returned (.string ⟨(Lib.itoa n).toArray⟩) ∧ ∃ k os, w' = grow (w.drewN k) os := Any.strconv_Itoa Tryd.laysM171 n h0 h1 w htab
def Tryd.lays264_ren : Go.Shelf.Ren := ⟨fun | 264 => 68 | n => n, fun | 53 => 54 | 46 => 57 | n => n, fun | n => n⟩
theorem Tryd.lays264 : Go.Proofs.Lays.n264 Tryd.prog Tryd.lays264_ren := {
  mixed := by kernel_rfl
  f264 := Tryd.func68.trans (congrArg some (by kernel_rfl))
  t46 := Tryd.underlying57
  a46 := Tryd.isAgg57
  z46 := Tryd.sizeOf57
  v46 := Tryd.zeroValue57
  t53 := Tryd.underlying54
  a53 := Tryd.isAgg54
  z53 := Tryd.sizeOf54
  v53 := Tryd.zeroValue54 }
open Go.RowKit Go.Lib in
theorem Tryd.bits_Mul64 (x y : Nat) (hx : x < 18446744073709551616) (hy : y < 18446744073709551616) (w : World) :
    Calls Tryd.prog 68 #[.int .u64 x, .int .u64 y] w fun e w' => e = .returned (.tuple #[.int .u64 ((x * y / 18446744073709551616 : Nat) : Int), .int .u64 ((x * y % 18446744073709551616 : Nat) : Int)]) ∧ w' = w := Any.bits_Mul64 Tryd.lays264 x y hx hy w
def Tryd.lays160_ren : Go.Shelf.Ren := ⟨fun | 160 => 45 | 232 => 72 | 231 => 71 | 227 => 73 | 234 => 75 | 233 => 74 | 236 => 77 | 235 => 76 | 228 => 88 | 271 => 91 | 151 => 90 | 197 => 89 | 120 => 100 | 152 => 99 | 260 => 98 | 137 => 84 | 119 => 107 | 224 => 108 | 225 => 109 | 217 => 93 | 266 => 101 | n => n, fun | 9 => 9 | 4 => 4 | 3 => 3 | 5 => 5 | 117 => 93 | 116 => 92 | 0 => 0 | 124 => 96 | 21 => 21 | 105 => 108 | 46 => 57 | 119 => 123 | 139 => 126 | 138 => 125 | n => n, fun | 3 => 1 | 4 => 2 | n => n⟩
theorem Tryd.lays160 : Go.Proofs.Lays.n160 Tryd.prog Tryd.lays160_ren := {
  mixed := by kernel_rfl
  f119 := Tryd.func107.trans (congrArg some (by kernel_rfl))
  f120 := Tryd.func100.trans (congrArg some (by kernel_rfl))
  f137 := Tryd.func84.trans (congrArg some (by kernel_rfl))
  f151 := Tryd.func90.trans (congrArg some (by kernel_rfl))
  f152 := Tryd.func99.trans (congrArg some (by kernel_rfl))
  f160 := Tryd.func45.trans (congrArg some (by kernel_rfl))
  f197 := Tryd.func89.trans (congrArg some (by kernel_rfl))
  f217 := Tryd.func93.trans (congrArg some (by kernel_rfl))
  f224 := Tryd.func108.trans (congrArg some (by kernel_rfl))
  f225 := Tryd.func109.trans (congrArg some (by kernel_rfl))
  f227 := Tryd.func73.trans (congrArg some (by kernel_rfl))
  f228 := Tryd.func88.trans (congrArg some (by kernel_rfl))
  f231 := Tryd.func71.trans (congrArg some (by kernel_rfl))
  f232 := Tryd.func72.trans (congrArg some (by kernel_rfl))
  f233 := Tryd.func74.trans (congrArg some (by kernel_rfl))
  f234 := Tryd.func75.trans (congrArg some (by kernel_rfl))
  f235 := Tryd.func76.trans (congrArg some (by kernel_rfl))
  f236 := Tryd.func77.trans (congrArg some (by kernel_rfl))
  f260 := Tryd.func98.trans (congrArg some (by kernel_rfl))
  f266 := Tryd.func101.trans (congrArg some (by kernel_rfl))
  f271 := Tryd.func91.trans (congrArg some (by kernel_rfl))
  t0 := Tryd.underlying0
  a0 := Tryd.isAgg0
  z0 := Tryd.sizeOf0
  v0 := Tryd.zeroValue0
  t3 := Tryd.underlying3
  a3 := Tryd.isAgg3
  z3 := Tryd.sizeOf3
  v3 := Tryd.zeroValue3
  t4 := Tryd.underlying4
  a4 := Tryd.isAgg4
  z4 := Tryd.sizeOf4
  v4 := Tryd.zeroValue4
  t5 := Tryd.underlying5
  a5 := Tryd.isAgg5
  z5 := Tryd.sizeOf5
  v5 := Tryd.zeroValue5
  t9 := Tryd.underlying9
  a9 := Tryd.isAgg9
  z9 := Tryd.sizeOf9
  v9 := Tryd.zeroValue9
  t21 := Tryd.underlying21
  a21 := Tryd.isAgg21
  z21 := Tryd.sizeOf21
  v21 := Tryd.zeroValue21
  t46 := Tryd.underlying57
  a46 := Tryd.isAgg57
  z46 := Tryd.sizeOf57
  v46 := Tryd.zeroValue57
  t105 := Tryd.underlying108
  a105 := Tryd.isAgg108
  z105 := Tryd.sizeOf108
  v105 := Tryd.zeroValue108
  t116 := Tryd.underlying92
  a116 := Tryd.isAgg92
  z116 := Tryd.sizeOf92
  t117 := Tryd.underlying93
  a117 := Tryd.isAgg93
  z117 := Tryd.sizeOf93
  v117 := Tryd.zeroValue93
  t119 := Tryd.underlying123
  a119 := Tryd.isAgg123
  z119 := Tryd.sizeOf123
  t124 := Tryd.underlying96
  a124 := Tryd.isAgg96
  z124 := Tryd.sizeOf96
  v124 := Tryd.zeroValue96
  t138 := Tryd.underlying125
  a138 := Tryd.isAgg125
  z138 := Tryd.sizeOf125
  v138 := Tryd.zeroValue125
  t139 := Tryd.underlying126
  a139 := Tryd.isAgg126
  z139 := Tryd.sizeOf126
  v139 := Tryd.zeroValue126
  g3 := by kernel_rfl
  g4 := by kernel_rfl }
def Tryd.lays166_ren : Go.Shelf.Ren := ⟨fun | 166 => 42 | 240 => 69 | 276 => 86 | n => n, fun | 0 => 0 | 3 => 3 | 4 => 4 | 5 => 5 | 9 => 9 | 20 => 20 | 37 => 56 | 70 => 62 | 72 => 64 | 75 => 66 | 80 => 70 | 164 => 104 | n => n, fun  | n => n⟩
theorem Tryd.lays166 : Go.Proofs.Lays.n166 Tryd.prog Tryd.lays166_ren := {
  mixed := by kernel_rfl
  f166 := Tryd.func42.trans (congrArg some (by kernel_rfl))
  f240 := Tryd.func69.trans (congrArg some (by kernel_rfl))
  f276 := Tryd.func86.trans (congrArg some (by kernel_rfl))
  t0 := Tryd.underlying0
  a0 := Tryd.isAgg0
  z0 := Tryd.sizeOf0
  v0 := Tryd.zeroValue0
  t3 := Tryd.underlying3
  a3 := Tryd.isAgg3
  z3 := Tryd.sizeOf3
  v3 := Tryd.zeroValue3
  t4 := Tryd.underlying4
  a4 := Tryd.isAgg4
  z4 := Tryd.sizeOf4
  v4 := Tryd.zeroValue4
  t9 := Tryd.underlying9
  a9 := Tryd.isAgg9
  z9 := Tryd.sizeOf9
  v9 := Tryd.zeroValue9
  t20 := Tryd.underlying20
  a20 := Tryd.isAgg20
  z20 := Tryd.sizeOf20
  v20 := Tryd.zeroValue20
  t37 := Tryd.underlying56
  a37 := Tryd.isAgg56
  z37 := Tryd.sizeOf56
  v37 := Tryd.zeroValue56
  t70 := Tryd.underlying62
  a70 := Tryd.isAgg62
  z70 := Tryd.sizeOf62
  v70 := Tryd.zeroValue62
  t72 := Tryd.underlying64
  a72 := Tryd.isAgg64
  z72 := Tryd.sizeOf64
  v72 := Tryd.zeroValue64
  t75 := Tryd.underlying66
  a75 := Tryd.isAgg66
  z75 := Tryd.sizeOf66
  v75 := Tryd.zeroValue66
  t164 := Tryd.underlying104
  a164 := Tryd.isAgg104
  z164 := Tryd.sizeOf104
  v164 := Tryd.zeroValue104
}
theorem Tryd.Builder_Extra_166 : Builder.Extra Tryd.prog Tryd.lays166_ren := {
  sizeBuilder := by kernel_rfl
  liesBuilder := by kernel_rfl
  t5 := Tryd.underlying5
  a5 := Tryd.isAgg5
  z5 := Tryd.sizeOf5
  v5 := Tryd.zeroValue5
  infoByte := by kernel_rfl
  cellsByte := by kernel_rfl
  sizeByte := by kernel_rfl
  neB5 := by decide
}
open Go.RowKit in
theorem Tryd.Builder_WriteString (B b : Nat) (bs : List Value) (s : ByteArray) (w : World) (h : Lib.IsBuilder 64 5 B b bs w) (hlen : bs.length + s.size ≤ 140737488355328) (hBw : B ≤ w.heap.size) :
    Calls Tryd.prog 42 #[.pointer (some ⟨b, 0, none⟩), .string s] w fun e w' => e = .returned (.tuple #[.int .i64 s.size, .nilIface]) ∧ (Lib.BuilderAt 64 5 B b (.pointer (some ⟨b, 0, none⟩)) (bs ++ Lib.strCells s) w' ∧ Below B w w') := Any.Builder_WriteString Tryd.lays166 Tryd.Builder_Extra_166 B b bs s w h hlen hBw
open Go.RowKit in
theorem Tryd.strings_Trim_set (s cutset : ByteArray) (w : World) (hs : s.size ≤ 9223372036854775807) (hcs : cutset.size < 4294967281)
    (hascii : ∀ (j : Nat) b, cutset.data.toList[j]? = some b → b.toNat < 128) :
    Calls Tryd.prog 45 #[.string s, .string cutset] w fun e w' => e = .returned (.string ⟨(Lib.trimS s.data.toList cutset.data.toList).toArray⟩) ∧ Below w.heap.size w w' := Any.strings_Trim_laid Tryd.lays160 (by kernel_rfl) s cutset w hs hcs hascii
end Go.Proofs
end
section
set_option linter.unusedVariables false
set_option linter.unusedSimpArgs false
namespace Go.Dig
def mix (x : UInt64) : UInt64 :=
  let a := x * 2862933555777941757
  let b := a ^^^ (a >>> 32)
  let c := b * 3935559000370003845
  c ^^^ (c >>> 29)
def pre (l : List UInt8) : Nat → Nat
  | 0 => 0
  | i + 1 => pre l i * 256 + (l.getD i 0).toNat
theorem pre_lt (l : List UInt8) (i : Nat) : pre l i < 256 ^ i := by
  induction i with
  | zero => simp [pre]
  | succ i ih =>
    have := (l.getD i 0).toNat_lt
    rw [pre, Nat.pow_succ]; omega
theorem pre_congr {l m : List UInt8} : ∀ {i : Nat}, (∀ j, j < i → l.getD j 0 = m.getD j 0) → pre l i = pre m i
  | 0, _ => rfl
  | i + 1, h => by rw [pre, pre, pre_congr (i := i) (fun j hj => h j (by omega)), h i (by omega)]
def block (l : List UInt8) : UInt64 := UInt64.ofNat (pre l 8)
theorem block_toNat (l : List UInt8) : (block l).toNat = pre l 8 := by
  have := pre_lt l 8
  unfold block; rw [UInt64.toNat_ofNat']; omega
def steps (s : UInt64) (l : List UInt8) : UInt64 :=
  if h : l.length < 8 then mix (s ^^^ block l) else steps (mix (s ^^^ block l)) (l.drop 8)
termination_by l.length
decreasing_by simp; omega
theorem steps_short {s : UInt64} {l : List UInt8} (h : l.length < 8) : steps s l = mix (s ^^^ block l) := by rw [steps, dif_pos h]
theorem steps_long {s : UInt64} {l : List UInt8} (h : 8 ≤ l.length) : steps s l = steps (mix (s ^^^ block l)) (l.drop 8) := by rw [steps, dif_neg (by omega)]
def start (n : Nat) : UInt64 := 1181783497276652981 ^^^ UInt64.ofNat n
def hexd (n : Nat) : UInt8 := if n < 10 then UInt8.ofNat (48 + n) else UInt8.ofNat (87 + n)
def hex (n : Nat) : List UInt8 := (List.range 16).map fun i => hexd (n / 2 ^ (60 - 4 * i) % 16)
theorem hex_len (n : Nat) : (hex n).length = 16 := by simp [hex]
def sum (l : List UInt8) : List UInt8 := hex (steps (start l.length) l).toNat
theorem sum_len (l : List UInt8) : (sum l).length = 16 := hex_len _
end Go.Dig
end
section
set_option linter.unusedVariables false
set_option linter.unusedSimpArgs false
namespace Go.Proofs.YteleheamnighkaaDoor
open Go.RowKit Go.DoorKit
theorem ofInt_u (x : UInt64) : BitVec.ofInt 64 (x.toNat : Int) = x.toBitVec := by
  rw [BitVec.ofInt_natCast]; exact BitVec.ofNat_toNat ..
theorem xor_u (x y : UInt64) : bits .xor .u64 (x.toNat : Int) (y.toNat : Int) = ((x ^^^ y).toNat : Int) := by
  have h := (x ^^^ y).toNat_lt
  show IntKind.u64.wrap (((BitVec.ofInt 64 (x.toNat : Int)) ^^^ (BitVec.ofInt 64 (y.toNat : Int))).toNat : Int) = _
  rw [ofInt_u, ofInt_u, ← UInt64.toBitVec_xor]
  show IntKind.u64.wrap ((x ^^^ y).toNat : Int) = _
  rw [show IntKind.u64.wrap ((x ^^^ y).toNat : Int) = ((x ^^^ y).toNat : Int) % 18446744073709551616 by simp [IntKind.wrap, IntKind.bits, IntKind.signed]]
  omega
theorem shr_u32 (x : UInt64) : ((x.toNat : Int) / (4294967296 : Int)) = ((x >>> 32).toNat : Int) := by
  rw [UInt64.toNat_shiftRight, Nat.shiftRight_eq_div_pow]; rfl
theorem shr_u29 (x : UInt64) : ((x.toNat : Int) / (536870912 : Int)) = ((x >>> 29).toNat : Int) := by
  rw [UInt64.toNat_shiftRight, Nat.shiftRight_eq_div_pow]; rfl
theorem mul_any (z y : Int) (x c : UInt64) (hz : z = x.toNat) (hy : y = c.toNat) (w : World) :
    Calls Tryd.prog 68 #[.int .u64 z, .int .u64 y] w fun e w' => (∃ (hi : Int) (v : UInt64), Hid (v = x * c) ∧ e = .returned (.tuple #[.int .u64 hi, .int .u64 (v.toNat : Int)])) ∧ w' = w := by
  subst hz hy
  refine (Tryd.bits_Mul64 x.toNat c.toNat x.toNat_lt c.toNat_lt w).mono ?_
  rintro e w' ⟨rfl, rfl⟩
  exact ⟨⟨_, _, Lib.hid rfl, by rw [UInt64.toNat_mul]⟩, rfl⟩
theorem xs32 (x : UInt64) : bits .xor .u64 (x.toNat : Int) ((x.toNat : Int) / (4294967296 : Int)) = ((x ^^^ (x >>> 32)).toNat : Int) := by rw [shr_u32, xor_u]
theorem xs29 (x : UInt64) : bits .xor .u64 (x.toNat : Int) ((x.toNat : Int) / (536870912 : Int)) = ((x ^^^ (x >>> 29)).toNat : Int) := by rw [shr_u29, xor_u]
set_option maxHeartbeats 400000 in
theorem mix_calls (x : UInt64) (w : World) :
    Calls Tryd.prog 39 #[.int .u64 x.toNat] w fun e w' => e = .returned (.int .u64 (Dig.mix x).toNat) ∧ w' = w := by
  have hx : (0 : Int) ≤ x.toNat := by omega
  go_enter Tryd.func39, Tryd.ntmps39
  go_wp2_with fail
  refine (mul_any _ _ x 2862933555777941757 rfl rfl _).mono ?_
  rintro e w' ⟨⟨hi, v, hv, rfl⟩, rfl⟩
  go_wp2_with fail
  refine (mul_any _ _ (v ^^^ (v >>> 32)) 3935559000370003845 (xs32 v) rfl _).mono ?_
  rintro e w' ⟨⟨hi2, u, hu, rfl⟩, rfl⟩
  go_wp2_with fail
  go_ret
  exact ⟨by rw [xs29, hu.out, hv.out]; rfl, rfl⟩
end Go.Proofs.YteleheamnighkaaDoor
end
section
set_option linter.unusedVariables false
set_option linter.unusedSimpArgs false
namespace Go.Proofs.YteleheamnighkaaDoor
open Go.RowKit Go.DoorKit
theorem Tryd.info5 : (Tryd.prog.info? 5).isSome = true := by kernel_rfl
def blkL (l : List UInt8) : List Value := (List.range 8).map fun i => .int .u8 (l.getD i 0).toNat
theorem blk_copy (s : ByteArray) (hs : s.size ≤ 8) : (s.data.toList.map fun b => Value.int .u8 b.toNat) ++ (#[Value.int .u8 0, .int .u8 0, .int .u8 0, .int .u8 0, .int .u8 0, .int .u8 0, .int .u8 0, .int .u8 0] : Array Value).toList.drop s.size = blkL s.data.toList := by
  have hl : s.data.toList.length = s.size := by simp
  have hz : (#[Value.int .u8 0, .int .u8 0, .int .u8 0, .int .u8 0, .int .u8 0, .int .u8 0, .int .u8 0, .int .u8 0] : Array Value).toList = List.replicate 8 (.int .u8 0) := rfl
  rw [hz, List.drop_replicate]
  apply List.ext_getElem
  · simp [blkL]; omega
  · intro i h1 h2
    simp only [blkL, List.length_map, List.length_range] at h2
    rw [List.getElem_append]
    simp only [blkL, List.getElem_map, List.getElem_range, List.length_map, hl]
    split
    · rename_i h
      simp [List.getD, List.getElem?_eq_getElem (show i < s.data.toList.length by omega)]
    · rename_i h
      simp [List.getD, List.getElem?_eq_none (show s.data.toList.length ≤ i by omega)]
theorem blkL_at (l : List UInt8) (i : Nat) (hi : i < 8) : (blkL l).toArray[i]? = some (.int .u8 ((l.getD i 0).toNat : Int)) := by
  simp only [blkL, List.getElem?_toArray, List.getElem?_map]
  rw [List.getElem?_range hi]; rfl
theorem wrap_u64 (z : Int) : IntKind.u64.wrap z = z % 18446744073709551616 := by simp [IntKind.wrap, IntKind.bits, IntKind.signed]
theorem or_u64 (n c : Nat) (hn : n < 72057594037927936) (hc : c < 256) : bits .or .u64 (IntKind.u64.wrap ((n : Int) * 256)) (IntKind.u64.wrap (c : Int)) = ((n * 256 + c : Nat) : Int) := by
  have h1 : IntKind.u64.wrap ((n : Int) * 256) = ((n * 256 : Nat) : Int) := by rw [wrap_u64]; omega
  have h2 : IntKind.u64.wrap (c : Int) = (c : Int) := by rw [wrap_u64]; omega
  have e1 : (BitVec.ofInt 64 ((n * 256 : Nat) : Int)).toNat = n * 256 := by rw [BitVec.ofInt_natCast, BitVec.toNat_ofNat, Nat.mod_eq_of_lt (by omega)]
  have e2 : (BitVec.ofInt 64 (c : Int)).toNat = c := by rw [BitVec.ofInt_natCast, BitVec.toNat_ofNat, Nat.mod_eq_of_lt (by omega)]
  rw [h1, h2]
  show IntKind.u64.wrap (((BitVec.ofInt 64 ((n * 256 : Nat) : Int)) ||| (BitVec.ofInt 64 (c : Int))).toNat : Int) = _
  rw [BitVec.toNat_or, e1, e2, Nat.mul_comm n 256, show 256 = 2 ^ 8 from rfl, ← Nat.two_pow_add_eq_or_of_lt (by omega) n, wrap_u64]
  omega
theorem mix_any (z : Int) (x : UInt64) (hz : z = x.toNat) (w : World) :
    Calls Tryd.prog 39 #[.int .u64 z] w fun e w' => e = .returned (.int .u64 (Dig.mix x).toNat) ∧ w = w' := by
  subst hz
  exact (mix_calls x w).mono fun e w' h => ⟨h.1, h.2.symm⟩
set_option maxRecDepth 100000 in
set_option maxHeartbeats 400000 in
theorem take_calls (b : Nat) (x : UInt64) (s : ByteArray) (hs : s.size ≤ 8) (w : World) (hb : w.cell? ⟨b, 0, none⟩ = some (.int .u64 x.toNat)) (hf : w.frozen? ⟨b, 0, none⟩ = false) (hlt : b < w.heap.size) :
    Calls Tryd.prog 38 #[.string s, .pointer (some ⟨b, 0, none⟩)] w fun e w' => e = .returned (.tuple #[]) ∧ ∃ o, w' = (w.setCell ⟨b, 0, none⟩ (.int .u64 (Dig.mix (x ^^^ Dig.block s.data.toList)).toNat)).alloc o := by
  obtain ⟨inf, hi⟩ := Option.isSome_iff_exists.1 Tryd.info5
  have HR := Lib.hid (fun ty => run_copy_part (P := Tryd.prog) (w.alloc (.cells #[.int .u8 0, .int .u8 0, .int .u8 0, .int .u8 0, .int .u8 0, .int .u8 0, .int .u8 0, .int .u8 0] 55)) (t := 56) (t2 := 9) (ty := ty) Tryd.underlying56 hi w.heap.size 8 8 _ s bk_alloc_new rfl hs)
  rw [blk_copy s hs, setBk_alloc_new] at HR
  obtain ⟨arr, harr⟩ : ∃ arr, arr = (blkL s.data.toList).toArray := ⟨_, rfl⟩
  rw [← harr] at HR
  have HA := Lib.hid harr
  clear harr hi
  have hcp := HR.out
  clear HR
  go_enter Tryd.func38, Tryd.ntmps38
  go_wp2
  clear hcp
  go_loop [4, 5, 9] (fun v4 v5 v9 => ∃ i : Nat, i ≤ 8 ∧ v4 = .int .u64 (Dig.pre s.data.toList i : Nat) ∧ v9 = .int .i64 i) (fun _ _ v9 => 8 - (intOf v9).toNat)
  case atStart => exact ⟨0, by omega, rfl, rfl⟩
  case round =>
    obtain ⟨i, hi8, rfl, rfl⟩ := hrel
    by_cases hlt8 : i < 8
    · have hc : (w.alloc (Obj.cells arr 55)).cell? ⟨w.heap.size, i, none⟩ = some (.int .u8 ((s.data.toList.getD i 0).toNat : Int)) := by
        rw [cell?_bk bk_alloc_new, HA.out]; exact blkL_at _ _ hlt8
      have hp := Dig.pre_lt s.data.toList i
      have hp2 : 256 ^ i ≤ 256 ^ 7 := Nat.pow_le_pow_right (by decide) (by omega)
      have hp3 := Lib.hid (show Dig.pre s.data.toList i < 72057594037927936 by omega)
      have hs1 : Hid (Dig.pre s.data.toList (i + 1) = Dig.pre s.data.toList i * 256 + (s.data.toList.getD i 0).toNat) := Lib.hid rfl
      generalize Dig.pre s.data.toList i = n at *
      have hd := Lib.hid (s.data.toList.getD i 0).toNat_lt
      generalize (s.data.toList.getD i 0).toNat = c at *
      clear hp hp2
      go_wp2
      go_round
      case rel => exact ⟨i + 1, by omega, by rw [hs1.out, or_u64 n c hp3.out hd.out], by go_num⟩
      case measure => simp [intOf]; omega
    · obtain rfl : i = 8 := by omega
      rw [← Dig.block_toNat]
      go_wp2_with (go_at_call 39; refine (mix_any _ (x ^^^ Dig.block s.data.toList) (xor_u _ _) _).mono ?_; rintro e w' ⟨rfl, rfl⟩)
      go_end0
      exact ⟨rfl, _, rfl⟩
end Go.Proofs.YteleheamnighkaaDoor
end
section
set_option linter.unusedVariables false
set_option linter.unusedSimpArgs false
namespace Go.Proofs.YteleheamnighkaaDoor
open Go.RowKit Go.DoorKit
def digA (i : Nat) : Array Value := ((List.range 16).map fun j => if j < i then Value.int .u8 ((Dig.hexd j).toNat : Int) else .int .u8 0).toArray
theorem digA_zero : (#[.int .u8 0, .int .u8 0, .int .u8 0, .int .u8 0, .int .u8 0, .int .u8 0, .int .u8 0, .int .u8 0, .int .u8 0, .int .u8 0, .int .u8 0, .int .u8 0, .int .u8 0, .int .u8 0, .int .u8 0, .int .u8 0] : Array Value) = digA 0 := rfl
theorem digA_get (i : Nat) (hi : i < 16) : (digA i)[i]? = some (.int .u8 0) := by
  simp only [digA, List.getElem?_toArray, List.getElem?_map]
  rw [List.getElem?_range hi]; simp
theorem digA_size (i : Nat) : (digA i).size = 16 := by simp [digA]
theorem set_get {a : Array Value} {i : Nat} (hi : i < a.size) (x : Value) : (a.setIfInBounds i x)[i]? = some x := by simp [hi]
theorem hexd_lo {i : Nat} (h : i < 10) : ((Dig.hexd i).toNat : Int) = 48 + (i : Int) := by
  unfold Dig.hexd; rw [if_pos h, UInt8.toNat_ofNat']; omega
theorem hexd_hi {i : Nat} (h : 10 ≤ i) (h2 : i < 16) : ((Dig.hexd i).toNat : Int) = 97 + (i : Int) - 10 := by
  unfold Dig.hexd; rw [if_neg (by omega), UInt8.toNat_ofNat']; omega
theorem digA_succ (i : Nat) (x : Int) (h : x = ((Dig.hexd i).toNat : Int)) : (digA i).setIfInBounds i (.int .u8 x) = digA (i + 1) := by
  subst h
  apply Array.ext
  · simp [digA]
  · intro k h1 h2
    rw [Array.getElem_setIfInBounds (by simpa using h1)]
    simp only [digA, List.getElem_toArray, List.getElem_map, List.getElem_range]
    by_cases h : i = k
    · subst h; rw [if_pos rfl, if_pos (by omega)]
    · rw [if_neg h]
      by_cases h3 : k < i
      · rw [if_pos h3, if_pos (by omega)]
      · rw [if_neg h3, if_neg (by omega)]
theorem set_set {a : Array Value} {i : Nat} (x y : Value) : (a.setIfInBounds i x).setIfInBounds i y = a.setIfInBounds i y := by simp
theorem digA_16 : digA 16 = #[.int .u8 48, .int .u8 49, .int .u8 50, .int .u8 51, .int .u8 52, .int .u8 53, .int .u8 54, .int .u8 55, .int .u8 56, .int .u8 57, .int .u8 97, .int .u8 98, .int .u8 99, .int .u8 100, .int .u8 101, .int .u8 102] := rfl
set_option maxRecDepth 100000 in
set_option maxHeartbeats 400000 in
theorem digits_calls (w : World) :
    Calls Tryd.prog 40 #[] w fun e w' => e = .returned (.agg (digA 16)) ∧ Below w.heap.size w w' := by
  go_enter Tryd.func40, Tryd.ntmps40
  go_wp2
  go_loopw [2, 3] (fun v2 v3 wr => ∃ i : Nat, i ≤ 16 ∧ v3 = .int .i64 i ∧ wr = (w.alloc (.cells (digA 0) 60)).alloc (.cells (digA i) 60)) (fun _ v3 _ => 16 - (intOf v3).toNat)
  case atStart => exact ⟨0, by omega, rfl, rfl⟩
  case round =>
    obtain ⟨i, hi, rfl, rfl⟩ := hrel
    by_cases hlt : i < 16
    · have hg := digA_get i hlt
      have hs := fun x => set_get (a := digA i) (i := i) (by rw [digA_size]; exact hlt) x
      have hss := fun x y => set_set (a := digA i) (i := i) x y
      by_cases h10 : 10 ≤ i
      · have hx := Lib.hid (digA_succ i _ (hexd_hi h10 hlt).symm)
        go_wp2
        go_roundw
        case rel => exact ⟨i + 1, by omega, by go_num, by rw [hx.out]⟩
        case measure => simp [intOf]; omega
      · have hx := Lib.hid (digA_succ i _ (hexd_lo (by omega)).symm)
        go_wp2
        go_roundw
        case rel => exact ⟨i + 1, by omega, by go_num, by rw [hx.out]⟩
        case measure => simp [intOf]; omega
    · obtain rfl : i = 16 := by omega
      rw [digA_16, ← digA_zero]
      go_wp2

      exact bodyPost_ret (v := .agg (digA 16)) (by rw [digA_16]; simp [results, Tryd.results40, go_sem]) rfl ⟨rfl, ((Below.refl _ _).alloc (Nat.le_refl _) _).alloc (by simp) _⟩
end Go.Proofs.YteleheamnighkaaDoor
end
section
set_option linter.unusedVariables false
set_option linter.unusedSimpArgs false
namespace Go.Proofs.YteleheamnighkaaDoor
open Go.RowKit Go.DoorKit
theorem ext_drop (s : ByteArray) : (s.extract 8 s.size).data.toList = s.data.toList.drop 8 := by
  rw [ByteArray.data_extract]; simp
  exact List.take_of_length_le (by simp)
theorem block_take (l : List UInt8) : Dig.block (l.take 8) = Dig.block l := by
  unfold Dig.block
  rw [Dig.pre_congr]
  intro j hj
  simp [List.getD, List.getElem?_take, hj]
def strLen : Value → Nat
  | .string t => t.size
  | _ => 0
theorem start_bits (s : ByteArray) (hs : s.size ≤ 9223372036854775807) : bits .xor .u64 1181783497276652981 (s.size : Int) = ((Dig.start s.size).toNat : Int) := by
  have h : ((UInt64.ofNat s.data.toList.length).toNat : Int) = (s.size : Int) := by
    rw [UInt64.toNat_ofNat', show s.data.toList.length = s.size by simp, Nat.mod_eq_of_lt (by omega)]
  have := xor_u 1181783497276652981 (UInt64.ofNat s.data.toList.length)
  rw [h, show ((1181783497276652981 : UInt64).toNat : Int) = 1181783497276652981 from rfl] at this
  rw [this, show s.data.toList.length = s.size by simp]; rfl
theorem store_row (W : World) (a b : Array Value) (T : TypeId) (hs : a.size = b.size) (h1 : ∀ v ∈ b.toList, v.oneCell' = true) :
    (storeCells ⟨W.heap.size, 0, none⟩ b.toList).run Tryd.prog (W.alloc (.cells a T)) = .ok () (W.alloc (.cells b T)) := by
  have hst := run_storeCells_at Tryd.prog W.heap.size 0 T b.toList 0 a (W.alloc (.cells a T)) bk_alloc_new (by rw [Array.length_toList]; omega) h1
  simp only [Nat.add_zero, Nat.zero_add, List.take_zero, List.nil_append, Array.length_toList] at hst
  rw [List.drop_eq_nil_of_le (by rw [Array.length_toList]; omega), List.append_nil] at hst
  rw [hst, setRow_eq bk_alloc_new, setBk_alloc_new]
theorem digA_one : ∀ v ∈ (digA 16).toList, v.oneCell' = true := by
  rw [digA_16]; simp [Value.oneCell']
def outA (y : Nat) (i : Nat) : Array Value := ((List.range 16).map fun j => if j < i then Value.int .u8 ((Dig.hexd (y / 2 ^ (60 - 4 * j) % 16)).toNat : Int) else .int .u8 0).toArray
theorem outA_get (y i : Nat) (hi : i < 16) : (outA y i)[i]? = some (.int .u8 0) := by
  simp only [outA, List.getElem?_toArray, List.getElem?_map]
  rw [List.getElem?_range hi]; simp
theorem outA_size (y i : Nat) : (outA y i).size = 16 := by simp [outA]
theorem outA_succ (y i : Nat) : (outA y i).setIfInBounds i (.int .u8 ((Dig.hexd (y / 2 ^ (60 - 4 * i) % 16)).toNat : Int)) = outA y (i + 1) := by
  apply Array.ext
  · simp [outA]
  · intro k h1 h2
    rw [Array.getElem_setIfInBounds (by simpa using h1)]
    simp only [outA, List.getElem_toArray, List.getElem_map, List.getElem_range]
    by_cases h : i = k
    · subst h; rw [if_pos rfl, if_pos (by omega)]
    · rw [if_neg h]
      by_cases h3 : k < i
      · rw [if_pos h3, if_pos (by omega)]
      · rw [if_neg h3, if_neg (by omega)]
theorem digA_at (d : Nat) (hd : d < 16) : (digA 16)[d]? = some (.int .u8 ((Dig.hexd d).toNat : Int)) := by
  simp only [digA, List.getElem?_toArray, List.getElem?_map]
  rw [List.getElem?_range hd]; simp [hd]
theorem and_15 (y : UInt64) (k : Nat) : bits .and .u64 ((y.toNat : Int) / 2 ^ k) 15 = ((y.toNat / 2 ^ k % 16 : Nat) : Int) := by
  have hy := y.toNat_lt
  have h1 : ((y.toNat : Int) / 2 ^ k) = ((y.toNat / 2 ^ k : Nat) : Int) := by simp
  have h2 : y.toNat / 2 ^ k ≤ y.toNat := Nat.div_le_self _ _
  rw [h1]
  generalize y.toNat / 2 ^ k = z at *
  have e1 : (BitVec.ofInt 64 (z : Int)).toNat = z := by rw [BitVec.ofInt_natCast, BitVec.toNat_ofNat, Nat.mod_eq_of_lt (by omega)]
  show IntKind.u64.wrap (((BitVec.ofInt 64 (z : Int)) &&& (BitVec.ofInt 64 15)).toNat : Int) = _
  rw [BitVec.toNat_and, e1, show (BitVec.ofInt 64 15).toNat = 2 ^ 4 - 1 from rfl, Nat.and_two_pow_sub_one_eq_mod, wrap_u64]
  omega
theorem outA_bytes (y : Nat) : outA y 16 = (Dig.hex y).toArray.map fun b => Value.int .u8 (b.toNat : Int) := by
  apply Array.ext
  · simp [outA, Dig.hex]
  · intro k h1 h2
    simp only [outA, Dig.hex, List.getElem_toArray, List.getElem_map, List.getElem_range, Array.getElem_map]
    rw [if_pos (by rw [outA_size] at h1; exact h1)]
theorem strOf_l (l : List UInt8) : strOfNums (l.map fun x => (x.toNat : Int)) = ⟨l.toArray⟩ := by
  unfold strOfNums
  rw [List.map_map, List.map_congr_left (g := id) (fun x _ => by simp), List.map_id]
theorem conv_row {W : World} {g T n : Nat} {l : List UInt8} (h : bk W g = some (.cells (l.map fun b => Value.int .u8 (b.toNat : Int)).toArray T (0, 0))) (hn : l.length = n) : (convert 56 9 (.slice (some ⟨g, 0, none⟩) n n)).run Tryd.prog W = .ok (.string ⟨l.toArray⟩) W := by
  subst hn
  have := run_convert_bytes_arg (P := Tryd.prog) W 56 5 Tryd.underlying56 Tryd.underlying5 g 0 l.length l.length (l.map fun x => (x.toNat : Int)) (by simp) (fun i hi => by
    rw [cell?_bk h, Nat.zero_add]
    simp [List.getD_eq_getElem?_getD, hi]) 9 Tryd.underlying9
  rw [strOf_l] at this
  exact this
set_option maxRecDepth 100000 in
set_option maxHeartbeats 400000 in
theorem sum_calls (s : ByteArray) (hs : s.size ≤ 9223372036854775807) (w : World) :
    Calls Tryd.prog 17 #[.string s] w fun e w' => e = .returned (.string ⟨(Dig.sum s.data.toList).toArray⟩) ∧ Below w.heap.size w w' := by
  have HS := Lib.hid (start_bits s hs)
  go_enter Tryd.func17, Tryd.ntmps17
  go_wp2_with fail
  rw [HS.out]
  go_loopw [0, 13, 14, 15, 16, 17, 18, 19, 20, 21] (fun v0 _ _ _ _ _ _ _ _ _ wr => ∃ (t : ByteArray) (x : UInt64), v0 = .string t ∧ t.size ≤ s.size ∧ Hid (Dig.steps x t.data.toList = Dig.steps (Dig.start s.size) s.data.toList) ∧
      wr.cell? ⟨w.heap.size, 0, none⟩ = some (.int .u64 x.toNat) ∧ wr.frozen? ⟨w.heap.size, 0, none⟩ = false ∧ w.heap.size < wr.heap.size ∧ Below w.heap.size w wr) (fun v0 _ _ _ _ _ _ _ _ _ _ => strLen v0)
  case atStart => exact ⟨s, _, rfl, Nat.le_refl _, Lib.hid rfl, by rw [cell?_bk bk_alloc_new]; rfl, frozen?_bk bk_alloc_new 0, by simp, (Below.refl _ _).alloc (Nat.le_refl _) _⟩
  case round =>
    obtain ⟨t, x, rfl, hts, HX, hc, hf, hlt, hB⟩ := hrel
    by_cases h8 : 8 ≤ t.size
    · have hsz : (t.extract 0 8).size ≤ 8 := by simp; omega
      go_wp2_with (go_at_call 38; refine (take_calls w.heap.size x _ hsz _ hc hf hlt).mono ?_; rintro e w2 ⟨rfl, o, rfl⟩)
      go_roundw
      case rel =>
        refine ⟨t.extract 8 t.size, Dig.mix (x ^^^ Dig.block t.data.toList), rfl, by simp; omega, Lib.hid ?_, ?_, ?_, ?_, ?_⟩
        · rw [ext_drop, ← HX.out, Dig.steps_long (l := t.data.toList) (by simpa using h8)]
        · rw [block_take]
          rw [World.cell?_of_block (w := wr.setCell ⟨w.heap.size, 0, none⟩ _) (bk_alloc_lt (by simpa [World.setCell] using hlt))]
          exact World.cell?_setCell_same' _ _ _ (by rw [hc]; rfl)
        · rw [World.frozen?_of_block (w := wr.setCell ⟨w.heap.size, 0, none⟩ _) (bk_alloc_lt (by simpa [World.setCell] using hlt)), World.frozen?_setCell]; exact hf
        · simp [World.setCell]; omega
        · exact (hB.setCell (p := ⟨w.heap.size, 0, none⟩) (Nat.le_refl _) _).alloc (by simp [World.setCell]; omega) _
      case measure => simp [strLen]; omega
    · have hsz : t.size ≤ 8 := by omega
      have h8' : t.size < 8 := by omega
      go_wp2_with (first
       | (go_at_call 38; refine (take_calls w.heap.size x _ hsz _ hc hf hlt).mono ?_; rintro e w2 ⟨rfl, o, rfl⟩))
      have HX2 : Hid (Dig.mix (x ^^^ Dig.block t.data.toList) = Dig.steps (Dig.start s.size) s.data.toList) := Lib.hid (by rw [← HX.out, Dig.steps_short (by simpa using h8')])
      generalize hm : Dig.mix (x ^^^ Dig.block t.data.toList) = y at *
      clear HX hm
      have hc2 : ((wr.setCell ⟨w.heap.size, 0, none⟩ (.int .u64 (y.toNat : Int))).alloc o).cell? ⟨w.heap.size, 0, none⟩ = some (.int .u64 (y.toNat : Int)) := by
        rw [World.cell?_of_block (w := wr.setCell ⟨w.heap.size, 0, none⟩ _) (bk_alloc_lt (by simpa [World.setCell] using hlt))]
        exact World.cell?_setCell_same' _ _ _ (by rw [hc]; rfl)
      have hlt2 : w.heap.size < ((wr.setCell ⟨w.heap.size, 0, none⟩ (.int .u64 (y.toNat : Int))).alloc o).heap.size := by simp [World.setCell]; omega
      have hB2 : Below w.heap.size w ((wr.setCell ⟨w.heap.size, 0, none⟩ (.int .u64 (y.toNat : Int))).alloc o) := (hB.setCell (p := ⟨w.heap.size, 0, none⟩) (Nat.le_refl _) _).alloc (by simp [World.setCell]; omega) _
      generalize (wr.setCell ⟨w.heap.size, 0, none⟩ (.int .u64 (y.toNat : Int))).alloc o = W2 at *
      clear hc hf hlt hB
      refine (digits_calls _).mono ?_
      rintro e W3 ⟨rfl, hB3⟩
      have hc3 : W3.cell? ⟨w.heap.size, 0, none⟩ = some (.int .u64 (y.toNat : Int)) := (hB3.cell (p := ⟨w.heap.size, 0, none⟩) hlt2).trans hc2
      have hlt3 : w.heap.size < W3.heap.size := Nat.lt_of_lt_of_le hlt2 hB3.size
      have hB4 : Below w.heap.size w W3 := hB2.trans (hB3.mono (Nat.le_of_lt hlt2))
      clear hB3 hc2 hlt2 hB2
      have h16 := digA_size 16
      have hst := store_row W3 (digA 0) (digA 16) 60 rfl digA_one
      rw [← digA_zero] at hst
      go_wp2_with fail
      clear hst
      go_loopw [7, 26] (fun v7 v26 wr => ∃ i : Nat, i ≤ 16 ∧ v26 = .int .i64 i ∧ wr = (W3.alloc (.cells (digA 16) 60)).alloc (.cells (outA y.toNat i) 60)) (fun _ v26 _ => 16 - (intOf v26).toNat)
      case atStart => exact ⟨0, by omega, rfl, rfl⟩
      case round =>
        obtain ⟨i, hi, rfl, rfl⟩ := hrel
        by_cases hlt : i < 16
        · have hand := and_15 y (60 - 4 * i)
          have hos := Lib.hid (outA_succ y.toNat i)
          obtain ⟨d, hd⟩ : ∃ d, y.toNat / 2 ^ (60 - 4 * i) % 16 = d := ⟨_, rfl⟩
          have hd16 : d < 16 := by omega
          rw [hd] at hand hos
          have Hd := Lib.hid hd
          clear hd
          have hda : ∀ h, (digA 16)[d]'h = .int .u8 ((Dig.hexd d).toNat : Int) := fun h => Option.some.inj ((Array.getElem?_eq_getElem h).symm.trans (digA_at d hd16))
          have hg := outA_get y.toNat i hlt
          go_wp2
          go_roundw
          case rel => exact ⟨i + 1, by omega, by go_num, by rw [hos.out]⟩
          case measure => simp [intOf]; omega
        · obtain rfl : i = 16 := by omega
          have hl : (Dig.hex y.toNat).length = 16 := Dig.hex_len _
          have hcv := conv_row (W := (W3.alloc (.cells (digA 16) 60)).alloc (.cells ((Dig.hex y.toNat).map fun b => Value.int .u8 (b.toNat : Int)).toArray 60)) bk_alloc_new hl
          rw [World.size_alloc] at hcv
          rw [outA_bytes]
          have HF : Hid (Dig.hex y.toNat = Dig.sum s.data.toList) := Lib.hid (by rw [HX2.out, show s.size = s.data.toList.length by simp]; rfl)
          go_wp2_with fail
          go_ret
          exact ⟨by rw [HF.out]; rfl, (hB4.alloc (Nat.le_of_lt hlt3) _).alloc (by simp; omega) _⟩
end Go.Proofs.YteleheamnighkaaDoor
end
section
set_option linter.unusedVariables false
set_option linter.unusedSimpArgs false
namespace Go.Dig
open Go.Lib
def val (l : List UInt8) : Nat := l.foldl (fun v c => v * 10 + (c.toNat - 48)) 0
def piece (s : List UInt8) : List UInt8 := decDigits s.length ++ 58 :: s
def joined (l : List (List UInt8)) : List UInt8 := (l.map piece).flatten
theorem joined_cons (s : List UInt8) (l : List (List UInt8)) : joined (s :: l) = piece s ++ joined l := rfl
theorem joined_snoc (l : List (List UInt8)) (s : List UInt8) : joined (l ++ [s]) = joined l ++ piece s := by simp [joined]
theorem piece_len (s : List UInt8) : (piece s).length = nDigits s.length + 1 + s.length := by
  simp [piece, decDigits_length]; omega
theorem nDigits_le {u k : Nat} (hk : 1 ≤ k) (h : u < 10 ^ k) : nDigits u ≤ k := by
  induction k generalizing u with
  | zero => omega
  | succ k ih =>
    by_cases h1 : u < 10
    · rw [nDigits_small h1]; omega
    · rw [nDigits_big h1]
      have hk1 : 1 ≤ k := by
        rcases Nat.eq_zero_or_pos k with rfl | h; · simp at h; omega
        · exact h
      have := ih (u := u / 10) hk1 (by rw [Nat.pow_succ] at h; omega)
      omega
end Go.Dig
end
section
set_option linter.unusedVariables false
set_option linter.unusedSimpArgs false
namespace Go.Proofs.YteleheamnighkaaDoor
open Go.RowKit Go.DoorKit Go.Proofs.YteleheamnighkaaDoorW.PrintWords
def Glob (w : World) : Prop := Lib.TabIs Tryd.prog w "internal/strconv.uint64pow10" .u64 Lib.pow10Tab
theorem Glob.below {w w' : World} (h : Glob w) (hb : Below w.heap.size w w') : Glob w' := Lib.tabBelow_of_tabIs h w' hb
theorem isb_below {T e B b : Nat} {bs : List Value} {w w' : World} (h : Lib.IsBuilder T e B b bs w) (hb : Below w.heap.size w w') : Lib.IsBuilder T e B b bs w' := by
  have one : ∀ p, Lib.BuilderAt T e B b p bs w → Lib.BuilderAt T e B b p bs w' := by
    rintro p ⟨hB, v, hh, ho, hn⟩
    exact ⟨hB, v, (hb.block b ((Array.getElem?_eq_some_iff.1 hh).1)).trans hh, pw_own_below ho hb, hn⟩
  rcases h with h | h
  · exact .inl (one _ h)
  · exact .inr (one _ h)
theorem itoa_any (n : Int) (h0 : 0 ≤ n) (h1 : n ≤ 9223372036854775807) (w : World) (hG : Glob w) :
    Calls Tryd.prog 43 #[.int .i64 n] w fun e w' => (∃ t : ByteArray, e = .returned (.string t) ∧ Hid (t.data.toList = Lib.decDigits n.toNat) ∧ t.size ≤ 21) ∧ Below w.heap.size w w' := by
  refine (Tryd.strconv_Itoa n (by omega) h1 w hG).mono ?_
  rintro e w' ⟨rfl, k, os, rfl⟩
  have hl := Lib.itoa_length_le n (by omega) h1
  refine ⟨⟨_, rfl, Lib.hid ?_, ?_⟩, Lib.below_grow _ _ (Nat.le_refl _) _ _⟩
  · show Lib.itoa n = _
    unfold Lib.itoa; rw [if_neg (by omega)]
  · show (Lib.itoa n).toArray.size ≤ 21
    simpa using hl
theorem joined_ge : ∀ l : List (List UInt8), l.length ≤ (Dig.joined l).length
  | [] => Nat.zero_le _
  | s :: l => by
    have := joined_ge l
    rw [Dig.joined_cons, List.length_append, Dig.piece_len, List.length_cons]; omega
theorem joined_take (l : List (List UInt8)) (i : Nat) (s : List UInt8) (h : l[i]? = some s) : Dig.joined (l.take (i + 1)) = Dig.joined (l.take i) ++ Dig.piece s := by
  rw [List.take_add_one, h, Option.toList_some, Dig.joined_snoc]
theorem joined_le (l : List (List UInt8)) (i : Nat) : (Dig.joined (l.take i)).length ≤ (Dig.joined l).length := by
  have h : Dig.joined l = Dig.joined (l.take i) ++ Dig.joined (l.drop i) := by
    unfold Dig.joined
    rw [← List.flatten_append, ← List.map_append, List.take_append_drop]
  rw [h, List.length_append]; omega
def Holds (b : Nat) (t : List UInt8) (w : World) : Prop := Lib.IsBuilder 64 5 b b (Lib.byteCells t) w
set_option maxRecDepth 100000 in
set_option maxHeartbeats 400000 in
theorem list_calls (A : Option Addr) (c : Nat) (l : List ByteArray) (w : World) (hr : Kd.C Kd.string w A l.length l) (hc : l.length ≤ c) (hj : (Dig.joined (l.map (·.data.toList))).length ≤ 140737488355328) (hG : Glob w) :
    Calls Tryd.prog 19 #[.slice A l.length c] w fun e w' => e = .returned (.string ⟨(Dig.sum (Dig.joined (l.map (·.data.toList)))).toArray⟩) ∧ Below w.heap.size w w' := by
  have hl : l.length ≤ 140737488355328 := by have := joined_ge (l.map (·.data.toList)); rw [List.length_map] at this; omega
  have HR := Lib.hid hr
  have HJ := Lib.hid hj
  have HG := Lib.hid hG
  clear hr hj hG
  go_enter Tryd.func19, Tryd.ntmps19
  go_wp2_with fail
  go_loopw [5, 8] (fun v5 v8 wr => ∃ i : Nat, i ≤ l.length ∧ v8 = .int .i64 i ∧ Holds w.heap.size (Dig.joined ((l.map (·.data.toList)).take i)) wr ∧ Below w.heap.size w wr) (fun _ v8 _ => l.length - (intOf v8).toNat)
  case atStart => exact ⟨0, Nat.zero_le _, rfl, Lib.fresh_isBuilder 64 5 w, (Below.refl _ _).alloc (Nat.le_refl _) _⟩
  case round =>
    obtain ⟨i, hi, rfl, hH, hB⟩ := hrel
    by_cases hlt : i < l.length
    · obtain ⟨ad, hA, hcell⟩ := Kd.at_string (Kd.C_below HR.out hB) (i : Int) (by omega) (by omega)
      obtain ⟨s, hs⟩ : ∃ s, l[i]? = some s := ⟨_, List.getElem?_eq_getElem hlt⟩
      have hrd : rdOf ByteArray.empty l (i : Int) = s := by simp [rdOf, List.getD, hs]
      rw [hrd, Int.toNat_natCast] at hcell
      subst hA
      have hst : (l.map (·.data.toList))[i]? = some s.data.toList := by rw [List.getElem?_map, hs]; rfl
      have hT := joined_take _ _ _ hst
      have hle := joined_le (l.map (·.data.toList)) (i + 1)
      have hpl := Dig.piece_len s.data.toList
      have hlen : (Dig.joined ((l.map (·.data.toList)).take (i + 1))).length = (Dig.joined ((l.map (·.data.toList)).take i)).length + (Dig.piece s.data.toList).length := by rw [hT, List.length_append]
      have hJ := HJ.out
      have hss : s.data.toList.length = s.size := by simp
      have hsz : s.size ≤ 140737488355328 := by omega
      have hsm : (s.size : Int) ≤ 9223372036854775807 := by omega
      have HT := Lib.hid hT
      have HB2 : Hid ((Dig.joined ((l.map (·.data.toList)).take i)).length + (Dig.piece s.data.toList).length ≤ 140737488355328) := Lib.hid (by omega)
      have HP := Lib.hid hpl
      clear hT hle hpl hlen hJ hss hrd hs hst
      generalize Dig.joined ((l.map (·.data.toList)).take i) = J at *
      go_wp2_with (first
        | (go_at_call 43; refine (itoa_any (s.size : Int) (by omega) hsm wr (HG.out.below hB)).mono ?_; rintro e w2 ⟨⟨t, rfl, ht, ht21⟩, hb2⟩))
      have hpc : (t ++ ⟨#[58]⟩ ++ s).data.toList = Dig.piece s.data.toList := by
        simp only [ByteArray.data_append, Array.toList_append, ht.out]
        unfold Dig.piece
        rw [Int.toNat_natCast, show s.data.toList.length = s.size by simp]
        simp
      have hps : (t ++ ⟨#[58]⟩ ++ s).size = (Dig.piece s.data.toList).length := by rw [← hpc, Array.length_toList]; rfl
      have hcells : Lib.byteCells J ++ Lib.strCells (t ++ ⟨#[58]⟩ ++ s) = Lib.byteCells (J ++ Dig.piece s.data.toList) := by rw [Lib.strCells_eq, hpc, ← Lib.byteCells_append]
      refine (Tryd.Builder_WriteString w.heap.size w.heap.size (Lib.byteCells J) _ w2 (isb_below hH hb2) (by rw [hps, Lib.byteCells_length]; exact HB2.out) (Nat.le_trans hB.size hb2.size)).mono ?_
      rintro e w3 ⟨rfl, hb3, hB3⟩
      rw [hcells, ← HT.out] at hb3
      have HH : Holds w.heap.size (Dig.joined ((l.map (·.data.toList)).take (i + 1))) w3 := .inr hb3
      have hB4 : Below w.heap.size w w3 := (hB.trans (hb2.mono hB.size)).trans hB3
      clear hb3 hcells hps hpc hH
      go_wp2
      go_roundw
      case rel => exact ⟨i + 1, by omega, by go_num, HH, hB4⟩
      case measure => simp [intOf]; omega
    · obtain rfl : i = l.length := by omega
      have hT : (l.map (·.data.toList)).take l.length = l.map (·.data.toList) := List.take_of_length_le (by simp)
      rw [hT] at hH
      have HH := Lib.hid hH
      have hJ := HJ.out
      have HS : Hid ((⟨(Dig.joined (l.map (·.data.toList))).toArray⟩ : ByteArray).size ≤ 9223372036854775807) := Lib.hid (by show (Dig.joined _).toArray.size ≤ _; simp at hJ ⊢; omega)
      clear hH hT hJ
      go_wp2_with (first
        | (go_at_call 44; refine (Tryd.Builder_String_any w.heap.size w.heap.size _ _ HH.out hB.size).mono ?_; rintro e w2 ⟨rfl, hb2⟩)
        | (go_at_call 17; refine (sum_calls _ HS.out _).mono ?_; rintro e w3 ⟨rfl, hb3⟩))
      go_ret
      exact ⟨rfl, (hB.trans hb2).trans (hb3.mono (Nat.le_trans hB.size hb2.size))⟩
end Go.Proofs.YteleheamnighkaaDoor
end
section
set_option linter.unusedVariables false
set_option linter.unusedSimpArgs false
namespace Go.Dig
def hexs : List UInt8 := [48, 49, 50, 51, 52, 53, 54, 55, 56, 57, 97, 98, 99, 100, 101, 102]
def isHex (c : UInt8) : Bool := hexs.contains c
def isD (l : List UInt8) : Bool := l.length == 16 && l.all isHex
end Go.Dig
namespace Go.Proofs.YteleheamnighkaaDoor
open Go.RowKit Go.DoorKit
theorem dropWhile_nil {α : Type} (p : α → Bool) : ∀ l : List α, l.dropWhile p = [] ↔ l.all p = true
  | [] => by simp
  | x :: l => by
    rw [List.dropWhile_cons]
    by_cases h : p x = true
    · rw [if_pos h, dropWhile_nil p l, List.all_cons, h, Bool.true_and]
    · rw [if_neg h]; simp [h]
theorem all_reverse {α : Type} (p : α → Bool) (l : List α) : l.reverse.all p = l.all p := by simp
theorem take_all {α : Type} (p : α → Bool) : ∀ l : List α, (l.takeWhile p).all p = true
  | [] => rfl
  | x :: l => by
    rw [List.takeWhile_cons]
    by_cases h : p x = true
    · rw [if_pos h, List.all_cons, h, take_all p l]; rfl
    · rw [if_neg h]; rfl
theorem trim_nil (l cs : List UInt8) : Lib.trimS l cs = [] ↔ l.all (cs.contains ·) = true := by
  unfold Lib.trimS Lib.trimLeftS Lib.trimRightS
  rw [dropWhile_nil, all_reverse]
  constructor
  · intro h
    have h2 := List.takeWhile_append_dropWhile (p := fun c => cs.contains c) (l := l.reverse)
    have h3 : l.reverse.all (fun c => cs.contains c) = true := by
      rw [← h2, List.all_append, h, Bool.and_true]
      exact take_all _ _
    rwa [all_reverse] at h3
  · intro h
    have : List.dropWhile (fun c => cs.contains c) l.reverse = [] := (dropWhile_nil _ _).2 (by rw [all_reverse]; exact h)
    rw [this]; rfl
theorem trim_any (s : ByteArray) (hs : s.size ≤ 9223372036854775807) (w : World) :
    Calls Tryd.prog 45 #[.string s, .string ⟨#[48, 49, 50, 51, 52, 53, 54, 55, 56, 57, 97, 98, 99, 100, 101, 102]⟩] w fun e w' => (∃ t : ByteArray, e = .returned (.string t) ∧ Hid (t.data.toList = [] ↔ s.data.toList.all Dig.isHex = true)) ∧ Below w.heap.size w w' := by
  refine (Tryd.strings_Trim_set s _ w hs (by decide) (ascii_of_all (by decide))).mono ?_
  rintro e w' ⟨rfl, hb⟩
  exact ⟨⟨_, rfl, Lib.hid (trim_nil s.data.toList Dig.hexs)⟩, hb⟩
set_option maxRecDepth 100000 in
set_option maxHeartbeats 400000 in
theorem is_calls (s : ByteArray) (hs : s.size ≤ 9223372036854775807) (w : World) :
    Calls Tryd.prog 21 #[.string s] w fun e w' => e = .returned (.bool (Dig.isD s.data.toList)) ∧ Below w.heap.size w w' := by
  have hl : s.data.toList.length = s.size := by simp
  by_cases h : s.size = 16
  · have h1 : ((s.size : Int) == 16) = true := by simp [h]
    have HD : Hid (Dig.isD s.data.toList = s.data.toList.all Dig.isHex) := Lib.hid (by unfold Dig.isD; rw [hl, h]; rfl)
    clear h hl
    go_enter Tryd.func21, Tryd.ntmps21
    go_wp2_with (go_at_call 45; refine (trim_any s hs _).mono ?_; rintro e w2 ⟨⟨t, rfl, ht⟩, hb⟩)
    go_ret
    refine ⟨?_, hb⟩
    rw [HD.out]
    show Ending.returned (.bool t.toList.isEmpty) = _
    have : t.toList.isEmpty = s.data.toList.all Dig.isHex := by
      rw [Bool.eq_iff_iff, ← ht.out, List.isEmpty_iff, ByteArray.toList_eq]
    rw [this]
  · have h1 : ((s.size : Int) == 16) = false := by simp; omega
    have HD : Hid (Dig.isD s.data.toList = false) := Lib.hid (by unfold Dig.isD; rw [hl]; simp [h])
    clear hl
    go_enter Tryd.func21, Tryd.ntmps21
    go_wp2_with fail
    go_ret
    exact ⟨by rw [HD.out]; rfl, Below.refl _ _⟩
end Go.Proofs.YteleheamnighkaaDoor
end
section
set_option linter.unusedVariables false
set_option linter.unusedSimpArgs false
namespace Go.Proofs.YteleheamnighkaaDoor
open Go.RowKit Go.DoorKit Go.Proofs.YteleheamnighkaaDoorW.PrintWords
abbrev tx (s : ByteArray) : List UInt8 := s.data.toList
def ofT (l : List UInt8) : ByteArray := ⟨l.toArray⟩
theorem tx_ofT (l : List UInt8) : tx (ofT l) = l := rfl
theorem size_ofT (l : List UInt8) : (ofT l).size = l.length := by show l.toArray.size = _; simp
theorem ofT_tx (s : ByteArray) : ofT (tx s) = s := rfl
theorem tx_len (s : ByteArray) : (tx s).length = s.size := by simp
theorem tx_inj {s t : ByteArray} (h : tx s = tx t) : s = t := by rw [← ofT_tx s, h, ofT_tx]
def Big (n : Nat) : Prop := n ≤ 140737488355328
instance (n : Nat) : Decidable (Big n) := inferInstanceAs (Decidable (n ≤ 140737488355328))
theorem Big.out {n : Nat} (h : Big n) : n ≤ 140737488355328 := h
def digest_Sum.f (a0 : ByteArray) : Option ByteArray := if Big a0.size then some (ofT (Dig.sum (tx a0))) else none
theorem digest_Sum.calls (a0 : ByteArray) (r : ByteArray) (w : World) (h : digest_Sum.f a0 = some r) :
    Calls Tryd.prog 17 #[.string a0] w fun e w' => e = .returned (.string r) ∧ Below w.heap.size w w' := by
  unfold digest_Sum.f at h
  split at h
  · rename_i hb
    obtain rfl := Option.some.inj h
    exact sum_calls a0 (by have := hb.out; omega) w
  · cases h
def digest_Is.f (a0 : ByteArray) : Option Bool := if Big a0.size then some (Dig.isD (tx a0)) else none
theorem digest_Is.calls (a0 : ByteArray) (r : Bool) (w : World) (h : digest_Is.f a0 = some r) :
    Calls Tryd.prog 21 #[.string a0] w fun e w' => e = .returned (.bool r) ∧ Below w.heap.size w w' := by
  unfold digest_Is.f at h
  split at h
  · rename_i hb
    obtain rfl := Option.some.inj h
    exact is_calls a0 (by have := hb.out; omega) w
  · cases h
def need (l : List ByteArray) : Nat := (l.map fun s => s.size + 21).sum
theorem joined_need : ∀ l : List ByteArray, Big (need l) → (Dig.joined (l.map tx)).length ≤ need l
  | [], _ => Nat.zero_le _
  | s :: l, h => by
    have h' := h.out
    have e : need (s :: l) = s.size + 21 + need l := rfl
    rw [e] at h'
    have ih := joined_need l (show need l ≤ _ by omega)
    have hd := Dig.nDigits_le (u := (tx s).length) (k := 20) (by omega) (by rw [tx_len]; omega)
    rw [List.map_cons, Dig.joined_cons, List.length_append, Dig.piece_len, e, tx_len] at *
    omega
def digest_List.f (l0 : List ByteArray) : Option ByteArray := if Big (need l0) then some (ofT (Dig.sum (Dig.joined (l0.map tx)))) else none
theorem digest_List.calls (A0 : Option Addr) (c0 : Nat) (l0 : List ByteArray) (r : ByteArray) (w : World) (hr0 : Kd.C Kd.string w A0 l0.length l0) (hc0 : l0.length ≤ c0) (h : digest_List.f l0 = some r) (hG : Glob w) :
    Calls Tryd.prog 19 #[.slice A0 l0.length c0] w fun e w' => e = .returned (.string r) ∧ Below w.heap.size w w' := by
  unfold digest_List.f at h
  split at h
  · rename_i hb
    obtain rfl := Option.some.inj h
    exact list_calls A0 c0 l0 w hr0 hc0 (Nat.le_trans (joined_need l0 hb) hb.out) hG
  · cases h
end Go.Proofs.YteleheamnighkaaDoor
end
section
set_option linter.unusedVariables false
set_option linter.unusedSimpArgs false
namespace Go.Proofs.YteleheamnighkaaDoor
open Go.RowKit Go.Proofs.YteleheamnighkaaDoorW.PrintWords
namespace BaseFacts
theorem wu (z : Int) (h0 : 0 ≤ z) (h1 : z < 18446744073709551616) : IntKind.u64.wrap z = z := by rw [wrap_u64]; omega
theorem tmod_nat (n d : Nat) : Int.tmod (n : Int) (d : Int) = ((n % d : Nat) : Int) := by rw [Int.tmod_eq_emod_of_nonneg (by omega)]; rfl
theorem tdiv_nat (n d : Nat) : Int.tdiv (n : Int) (d : Int) = ((n / d : Nat) : Int) := by rw [Int.tdiv_eq_ediv_of_nonneg (by omega)]; rfl
def hexB : ByteArray := ⟨#[48, 49, 50, 51, 52, 53, 54, 55, 56, 57, 97, 98, 99, 100, 101, 102]⟩
theorem hexB_at : ∀ t : Fin 16, hexB.extract t.val (t.val + 1) = ofT [Dig.hexd t.val] := by decide +kernel
theorem hexB_cut (t : Nat) (h : t < 16) : hexB.extract t (t + 1) = ofT [Dig.hexd t] := hexB_at ⟨t, h⟩
theorem ofT_append (a b : List UInt8) : ofT a ++ ofT b = ofT (a ++ b) := tx_inj (by show (ofT a ++ ofT b).data.toList = _; rw [ByteArray.data_append, Array.toList_append]; rfl)
theorem hex_drop (n i : Nat) (hi : i < 16) : (Dig.hex n).drop (16 - (i + 1)) = Dig.hexd (n / 16 ^ i % 16) :: (Dig.hex n).drop (16 - i) := by
  have h1 : 16 - (i + 1) < (Dig.hex n).length := by rw [Dig.hex_len]; omega
  rw [List.drop_eq_getElem_cons h1, show 16 - (i + 1) + 1 = 16 - i by omega]
  congr 1
  simp only [Dig.hex, List.getElem_map, List.getElem_range]
  have : (2 : Nat) ^ (60 - 4 * (16 - (i + 1))) = 16 ^ i := by
    rw [show 60 - 4 * (16 - (i + 1)) = 4 * i by omega, Nat.pow_mul]
  rw [this]
theorem sum_l2 (n : Nat) (hn : n < 18446744073709551616) : ∀ (d i k : Nat), i + d = 16 → d < k →
    PBase.planisphereref01_Sum.l2 k ((n / 16 ^ i : Nat) : Int) (ofT ((Dig.hex n).drop (16 - i))) i = some (ofT (Dig.hex n)) := by
  intro d
  induction d with
  | zero =>
    intro i k hi hk
    obtain ⟨k, rfl⟩ : ∃ n, k = n + 1 := ⟨k - 1, by omega⟩
    obtain rfl : i = 16 := by omega
    simp only [PBase.planisphereref01_Sum.l2]
    rw [if_neg (by omega)]; rfl
  | succ d ih =>
    intro i k hi hk
    obtain ⟨k, rfl⟩ : ∃ n, k = n + 1 := ⟨k - 1, by omega⟩
    have hlt : i < 16 := by omega
    have hle : n / 16 ^ i ≤ n := Nat.div_le_self _ _
    have hd : n / 16 ^ (i + 1) = n / 16 ^ i / 16 := by rw [Nat.pow_succ, Nat.div_div_eq_div_mul]
    have hdr := hex_drop n i hlt
    have ihh := ih (i + 1) k (by omega) (by omega)
    rw [hdr, hd] at ihh
    generalize n / 16 ^ i = z at *
    have e1 : Int.tmod (z : Int) 16 = ((z % 16 : Nat) : Int) := by rw [show (16 : Int) = ((16 : Nat) : Int) from rfl, tmod_nat]
    have e2 : Int.tdiv (z : Int) 16 = ((z / 16 : Nat) : Int) := by rw [show (16 : Int) = ((16 : Nat) : Int) from rfl, tdiv_nat]
    have hm : z % 16 < 16 := by omega
    have e3 : IntKind.u64.wrap (((z % 16 : Nat) : Int) + 1) = ((z % 16 + 1 : Nat) : Int) := by rw [wu _ (by omega) (by omega)]; omega
    have e4 : IntKind.u64.wrap ((z / 16 : Nat) : Int) = ((z / 16 : Nat) : Int) := wu _ (by omega) (by omega)
    have e5 : wrap64 ((i : Int) + 1) = ((i + 1 : Nat) : Int) := by unfold wrap64; omega
    have e6 : (⟨#[48, 49, 50, 51, 52, 53, 54, 55, 56, 57, 97, 98, 99, 100, 101, 102]⟩ : ByteArray).extract (z % 16) (z % 16 + 1) = ofT [Dig.hexd (z % 16)] := hexB_cut _ hm
    have hsz : (ofT [Dig.hexd (z % 16)]).size + (ofT ((Dig.hex n).drop (16 - i))).size ≤ 9223372036854775807 := by
      rw [size_ofT, size_ofT, List.length_drop, Dig.hex_len, List.length_singleton]; omega
    simp only [PBase.planisphereref01_Sum.l2]
    rw [e1, e2, e3, e4, e5]
    clear e1 e2 e3 e4 e5
    rw [if_pos (by omega), if_pos (by omega), if_pos (by omega), if_pos (by omega)]
    simp only [Int.toNat_natCast]
    rw [e6, if_pos hsz, ofT_append]
    exact ihh
theorem mulw1 (x : UInt64) : IntKind.u64.wrap ((x.toNat : Int) * 2862933555777941757) = ((x * (2862933555777941757 : UInt64)).toNat : Int) := by
  rw [wrap_u64, UInt64.toNat_mul, Int.natCast_emod, Int.natCast_mul]; rfl
theorem mulw2 (x : UInt64) : IntKind.u64.wrap ((x.toNat : Int) * 3935559000370003845) = ((x * (3935559000370003845 : UInt64)).toNat : Int) := by
  rw [wrap_u64, UInt64.toNat_mul, Int.natCast_emod, Int.natCast_mul]; rfl
theorem mix_f (y : UInt64) (z : Int) (h : z = y.toNat) : PBase.planisphereref01_mix.f z = some ((Dig.mix y).toNat : Int) := by
  subst h
  unfold PBase.planisphereref01_mix.f
  rw [mulw1, xs32, mulw2, xs29]; rfl
theorem bt_tx (s : ByteArray) (i : Nat) (h : i < s.size) : bt s (i : Int) = (((tx s).getD i 0).toNat : Int) := by
  have hi : i < s.data.size := h
  simp only [bt, Int.toNat_natCast]
  rw [dif_pos h]
  have : (tx s).getD i 0 = s.data[i] := by
    rw [List.getD, Array.getElem?_toList, Array.getElem?_eq_getElem hi]; rfl
  rw [this]; rfl
theorem pre_drop (l : List UInt8) (a j : Nat) : (l.drop a).getD j 0 = l.getD (a + j) 0 := by simp [List.getD]
theorem sum_l1 (s : ByteArray) (hs : s.size ≤ 140737488355328) (y : UInt64) (a : Nat) (ha : a ≤ s.size) (K : Nat) (R : Option ByteArray)
    (hR : ∀ k, K < k → PBase.planisphereref01_Sum.l0 k s ((Dig.mix (y ^^^ Dig.block ((tx s).drop a))).toNat : Int) ((a + 8 : Nat) : Int) = R) :
    ∀ (d j k : Nat), j + d = 8 → d + K + 1 < k → PBase.planisphereref01_Sum.l1 k s (y.toNat : Int) a ((Dig.pre ((tx s).drop a) j : Nat) : Int) ((a + j : Nat) : Int) = R := by
  intro d
  have e8 : wrap64 ((a : Int) + 8) = ((a + 8 : Nat) : Int) := by unfold wrap64; omega
  induction d with
  | zero =>
    intro j k hj hk
    obtain ⟨k, rfl⟩ : ∃ n, k = n + 1 := ⟨k - 1, by omega⟩
    obtain rfl : j = 8 := by omega
    simp only [PBase.planisphereref01_Sum.l1]
    rw [e8, if_neg (by omega), mix_f (y ^^^ Dig.block ((tx s).drop a)) _ (by rw [← Dig.block_toNat]; exact xor_u _ _)]
    exact hR k (by omega)
  | succ d ih =>
    intro j k hj hk
    obtain ⟨k, rfl⟩ : ∃ n, k = n + 1 := ⟨k - 1, by omega⟩
    have hp := Dig.pre_lt ((tx s).drop a) j
    have hp2 : 256 ^ j ≤ 256 ^ 7 := Nat.pow_le_pow_right (by decide) (by omega)
    have hsucc : Dig.pre ((tx s).drop a) (j + 1) = Dig.pre ((tx s).drop a) j * 256 + (((tx s).drop a).getD j 0).toNat := rfl
    have ihh := ih (j + 1) k (by omega) (by omega)
    rw [hsucc, pre_drop] at ihh
    have e1 : wrap64 (((a + j : Nat) : Int) + 1) = ((a + (j + 1) : Nat) : Int) := by unfold wrap64; omega
    simp only [PBase.planisphereref01_Sum.l1]
    rw [e8, if_pos (by omega), e1]
    generalize Dig.pre ((tx s).drop a) j = n at *
    have e2 : IntKind.u64.wrap ((n : Int) * 256) = ((n * 256 : Nat) : Int) := by rw [wu _ (by omega) (by omega)]; omega
    rw [e2]
    by_cases hlt : a + j < s.size
    · rw [if_pos (by omega), if_pos (by omega), bt_tx s (a + j) hlt]
      have hc := ((tx s).getD (a + j) 0).toNat_lt
      generalize ((tx s).getD (a + j) 0).toNat = c at *
      have e3 : IntKind.u64.wrap (((n * 256 : Nat) : Int) + IntKind.u64.wrap (c : Int)) = ((n * 256 + c : Nat) : Int) := by
        rw [wu (c : Int) (by omega) (by omega), wu _ (by omega) (by omega)]; omega
      rw [e3]; exact ihh
    · rw [if_neg (by omega)]
      have h0 : (tx s).getD (a + j) 0 = 0 := by simp [List.getD, List.getElem?_eq_none (show (tx s).length ≤ a + j by rw [tx_len]; omega)]
      rw [h0, UInt8.toNat_zero, Nat.add_zero] at ihh
      exact ihh
theorem sum_l0 (s : ByteArray) (hs : s.size ≤ 140737488355328) : ∀ (b a : Nat) (y : UInt64) (k : Nat), a ≤ s.size → s.size - a < 8 * (b + 1) → 11 * (b + 1) + 30 < k →
    PBase.planisphereref01_Sum.l0 k s (y.toNat : Int) a = some (ofT (Dig.hex (Dig.steps y ((tx s).drop a)).toNat)) := by
  intro b
  induction b with
  | zero =>
    intro a y k ha hb hk
    obtain ⟨k, rfl⟩ : ∃ n, k = n + 1 := ⟨k - 1, by omega⟩
    simp only [PBase.planisphereref01_Sum.l0]
    rw [if_pos (by omega)]
    rw [Dig.steps_short (by rw [List.length_drop, tx_len]; omega)]
    refine sum_l1 s hs y a ha 20 _ (fun k hk => ?_) 8 0 k (by omega) (by omega)
    obtain ⟨k, rfl⟩ : ∃ n, k = n + 1 := ⟨k - 1, by omega⟩
    simp only [PBase.planisphereref01_Sum.l0]
    rw [if_neg (by omega)]
    have := sum_l2 (Dig.mix (y ^^^ Dig.block ((tx s).drop a))).toNat (UInt64.toNat_lt _) 16 0 k (by omega) (by omega)
    have hd : ∀ x : Nat, (Dig.hex x).drop (16 - 0) = [] := fun x => List.drop_eq_nil_of_le (by rw [Dig.hex_len]; omega)
    rw [Nat.pow_zero, Nat.div_one, hd, show ((0 : Nat) : Int) = 0 from rfl] at this
    exact this
  | succ b ih =>
    intro a y k ha hb hk
    by_cases hshort : s.size - a < 8
    · exact (by
        have := ih a y k ha (by omega) (by omega)
        exact this)
    · obtain ⟨k, rfl⟩ : ∃ n, k = n + 1 := ⟨k - 1, by omega⟩
      simp only [PBase.planisphereref01_Sum.l0]
      rw [if_pos (by omega)]
      rw [Dig.steps_long (by rw [List.length_drop, tx_len]; omega), List.drop_drop]
      exact sum_l1 s hs y a ha (11 * (b + 1) + 30) _ (fun k hk => ih (a + 8) _ k (by omega) (by omega) hk) 8 0 k (by omega) (by omega)
theorem sum_f (s : ByteArray) (hs : s.size ≤ 140737488355328) : ∃ k, PBase.planisphereref01_Sum.f k s = some (ofT (Dig.sum (tx s))) := by
  refine ⟨11 * (s.size + 1) + 31, ?_⟩
  unfold PBase.planisphereref01_Sum.f
  rw [wu _ (by omega) (by omega), start_bits s (by omega)]
  have := sum_l0 s hs s.size 0 (Dig.start s.size) (11 * (s.size + 1) + 31) (by omega) (by omega) (by omega)
  rw [List.drop_zero] at this
  unfold Dig.sum
  rw [tx_len]; exact this
end BaseFacts
end Go.Proofs.YteleheamnighkaaDoor
end
section
namespace Go.Proofs.YteleheamnighkaaDoor.PBase
open Go.RowKit Go.Proofs.YteleheamnighkaaDoorW.PrintWords Go.Proofs.YteleheamnighkaaDoorW.PrintLast Go.Proofs.YteleheamnighkaaDoorW.PrintMore
attribute [local go_sem] max2_int min2_int max_two min_two max_three min_three max_four min_four   -- for this text's walks alone
set_option linter.unusedVariables false
set_option linter.unusedSimpArgs false
def planisphereref01_Same.l0 : Nat → List ByteArray → List ByteArray → Int → Option (Bool)
  | 0, _, _, _ => none
  | k + 1, x0, x1, x5 => if x5 < (x0.length : Int) then (if 0 ≤ x5 then (if x5 < (x1.length : Int) then (if (rdOf ByteArray.empty x0 x5).toList = (rdOf ByteArray.empty x1 x5).toList then (planisphereref01_Same.l0 k x0 x1 (wrap64 (x5 + 1))) else (some false)) else (none)) else (none)) else (some true)
def planisphereref01_Same.f (k : Nat) (l0 : List ByteArray) (l1 : List ByteArray) : Option (Bool) := if (l0.length : Int) = (l1.length : Int) then (planisphereref01_Same.l0 k l0 l1 0) else (some false)
set_option maxHeartbeats 8000000 in
set_option maxRecDepth 100000 in
theorem planisphereref01_Same.calls (k : Nat) (A0 : Option Addr) (c0 : Nat) (l0 : List ByteArray) (A1 : Option Addr) (c1 : Nat) (l1 : List ByteArray) (r : Bool) (w : World) (hr0 : Kd.C Kd.string w A0 l0.length l0) (hc0 : l0.length ≤ c0) (hr1 : Kd.C Kd.string w A1 l1.length l1) (hc1 : l1.length ≤ c1) (h : planisphereref01_Same.f k l0 l1 = some r) :
    Calls Tryd.prog 24 #[.slice A0 l0.length c0, .slice A1 l1.length c1] w fun e w' => e = .returned (.bool r) ∧ Drawn0 w w' := by
  have HR0 := Aside0.mk hr0
  have HC0 := Aside0.mk hc0
  clear hr0 hc0
  have HR1 := Aside0.mk hr1
  have HC1 := Aside0.mk hc1
  clear hr1 hc1
  have H : (if (l0.length : Int) = (l1.length : Int) then (planisphereref01_Same.l0 k l0 l1 0) else (some false)) = some r := h
  clear h
  by_cases c3 : (l0.length : Int) = (l1.length : Int)
  · rw [if_pos c3] at H
    have c3b0 : ((l0.length : Int) == (l1.length : Int)) = true := beq_iff_eq.mpr c3
    have c3b1 : ((l0.length : Int) != (l1.length : Int)) = false := bne_eq_false_iff_eq.mpr c3
    have c3b2 : (l0.length == l1.length) = true := by first | simpa using c3 | (simp at c3 ⊢; omega)
    clear c3
    have H' := Aside0.mk H
    clear H
    go_enter Tryd.func24, Tryd.ntmps24
    go_wp2
    repeat (go_quiet (fail); try go_wp2)
    go_loopg [5] k (fun kq v5 w' => ∃ (x5_1 : Int), v5 = .int .i64 x5_1 ∧ Aside0 (planisphereref01_Same.l0 kq l0 l1 x5_1 = some r) ∧ Aside0 (kq ≤ k) ∧ Drawn0 w w')
    case atStart => exact ⟨(0), (by first | rfl | (simp; done) | (simp [*]; done)), H', ⟨Nat.le_refl _⟩, by repeat (first | exact Drawn0.refl _ | apply Drawn0.step)⟩
    case round =>
      clear H'
      try clear c1
      try clear c2
      try clear p2
      try clear c3
      try clear c3b0
      try clear c3b1
      try clear c3b2
      obtain ⟨x5_1, rfl, HA, HK1, ⟨m1, rfl⟩⟩ := hrel
      cases gk with
      | zero => exact absurd HA.out (by simp [planisphereref01_Same.l0])
      | succ k1 =>
        have H := HA.out
        clear HA
        simp only [planisphereref01_Same.l0] at H
        by_cases c4 : x5_1 < (l0.length : Int)
        · rw [if_pos c4] at H
          have c4b0 : decide (x5_1 < (l0.length : Int)) = true := decide_eq_true c4
          clear c4
          by_cases c5 : 0 ≤ x5_1
          · rw [if_pos c5] at H
            have c5b0 : decide (0 ≤ x5_1) = true := decide_eq_true c5
            clear c5
            by_cases c6 : x5_1 < (l1.length : Int)
            · rw [if_pos c6] at H
              have c6b0 : decide (x5_1 < (l1.length : Int)) = true := decide_eq_true c6
              clear c6
              by_cases c7 : (rdOf ByteArray.empty l0 x5_1).toList = (rdOf ByteArray.empty l1 x5_1).toList
              · rw [if_pos c7] at H
                have c7b0 : ((rdOf ByteArray.empty l0 x5_1).toList == (rdOf ByteArray.empty l1 x5_1).toList) = true := beq_iff_eq.mpr c7
                have c7b1 : ((rdOf ByteArray.empty l0 x5_1).toList != (rdOf ByteArray.empty l1 x5_1).toList) = false := bne_eq_false_iff_eq.mpr c7
                clear c7
                have H' := Aside0.mk H
                clear H
                have p105 : 0 ≤ (x5_1 : Int) := of_decide_eq_true (by first | (with_reducible assumption) | assumption)
                have q105 : x5_1 < (l0.length : Int) := of_decide_eq_true (by first | (with_reducible assumption) | assumption)
                obtain ⟨ad105, e105, hx105_0⟩ := Kd.at_string HR0.out x5_1 p105 q105
                cases e105
                replace p105 := eq_true p105
                replace q105 := eq_true q105
                have p106 : 0 ≤ (x5_1 : Int) := of_decide_eq_true (by first | (with_reducible assumption) | assumption)
                have q106 : x5_1 < (l1.length : Int) := of_decide_eq_true (by first | (with_reducible assumption) | assumption)
                obtain ⟨ad106, e106, hx106_0⟩ := Kd.at_string HR1.out x5_1 p106 q106
                cases e106
                replace p106 := eq_true p106
                replace q106 := eq_true q106
                go_wp2
                repeat (go_quiet (fail); try go_wp2)
                go_roundg k1
                case measure => have := HK1.out; omega
                case rel => exact ⟨(wrap64 (x5_1 + 1)), (by first | rfl | (simp; done) | (simp [*]; done)), H', ⟨by have := HK1.out; omega⟩, by repeat (first | exact Drawn0.refl _ | apply Drawn0.step)⟩
              · rw [if_neg c7] at H
                have c7b0 : ((rdOf ByteArray.empty l0 x5_1).toList == (rdOf ByteArray.empty l1 x5_1).toList) = false := beq_eq_false_iff_ne.mpr c7
                have c7b1 : ((rdOf ByteArray.empty l0 x5_1).toList != (rdOf ByteArray.empty l1 x5_1).toList) = true := bne_iff_ne.mpr c7
                obtain rfl := Option.some.inj H
                have p105 : 0 ≤ (x5_1 : Int) := of_decide_eq_true (by first | (with_reducible assumption) | assumption)
                have q105 : x5_1 < (l0.length : Int) := of_decide_eq_true (by first | (with_reducible assumption) | assumption)
                obtain ⟨ad105, e105, hx105_0⟩ := Kd.at_string HR0.out x5_1 p105 q105
                cases e105
                replace p105 := eq_true p105
                replace q105 := eq_true q105
                have p106 : 0 ≤ (x5_1 : Int) := of_decide_eq_true (by first | (with_reducible assumption) | assumption)
                have q106 : x5_1 < (l1.length : Int) := of_decide_eq_true (by first | (with_reducible assumption) | assumption)
                obtain ⟨ad106, e106, hx106_0⟩ := Kd.at_string HR1.out x5_1 p106 q106
                cases e106
                replace p106 := eq_true p106
                replace q106 := eq_true q106
                go_wp2
                repeat (go_quiet (fail); try go_wp2)
                go_ret
                exact ⟨by first | rfl | (simp; done) | (simp [*]; done), by repeat (first | exact Drawn0.refl _ | apply Drawn0.step)⟩
            · rw [if_neg c6] at H
              exact absurd H (by simp)
          · rw [if_neg c5] at H
            exact absurd H (by simp)
        · rw [if_neg c4] at H
          have c4b0 : decide (x5_1 < (l0.length : Int)) = false := decide_eq_false c4
          clear c4
          obtain rfl := Option.some.inj H
          go_wp2
          repeat (go_quiet (fail); try go_wp2)
          go_ret
          exact ⟨by first | rfl | (simp; done) | (simp [*]; done), by repeat (first | exact Drawn0.refl _ | apply Drawn0.step)⟩
  · rw [if_neg c3] at H
    have c3b0 : ((l0.length : Int) == (l1.length : Int)) = false := beq_eq_false_iff_ne.mpr c3
    have c3b1 : ((l0.length : Int) != (l1.length : Int)) = true := bne_iff_ne.mpr c3
    have c3b2 : (l0.length == l1.length) = false := by first | simpa using c3 | (simp at c3 ⊢; omega)
    obtain rfl := Option.some.inj H
    go_enter Tryd.func24, Tryd.ntmps24
    go_wp2
    repeat (go_quiet (fail); try go_wp2)
    go_ret
    exact ⟨by first | rfl | (simp; done) | (simp [*]; done), by repeat (first | exact Drawn0.refl _ | apply Drawn0.step)⟩
def planispherelaw02_short.l0 : Nat → List ByteArray → Int → Option (Bool)
  | 0, _, _ => none
  | k + 1, x0, x3 => if x3 < (x0.length : Int) then (if 0 ≤ x3 then (if ((rdOf ByteArray.empty x0 x3).size : Int) > 300 then (some false) else (planispherelaw02_short.l0 k x0 (wrap64 (x3 + 1)))) else (none)) else (some true)
def planispherelaw02_short.f (k : Nat) (l0 : List ByteArray) : Option (Bool) := planispherelaw02_short.l0 k l0 0
set_option maxHeartbeats 8000000 in
set_option maxRecDepth 100000 in
theorem planispherelaw02_short.calls (k : Nat) (A0 : Option Addr) (c0 : Nat) (l0 : List ByteArray) (r : Bool) (w : World) (hr0 : Kd.C Kd.string w A0 l0.length l0) (hc0 : l0.length ≤ c0) (h : planispherelaw02_short.f k l0 = some r) :
    Calls Tryd.prog 26 #[.slice A0 l0.length c0] w fun e w' => e = .returned (.bool r) ∧ Drawn0 w w' := by
  have HR0 := Aside0.mk hr0
  have HC0 := Aside0.mk hc0
  clear hr0 hc0
  have H : (planispherelaw02_short.l0 k l0 0) = some r := h
  clear h
  have H' := Aside0.mk H
  clear H
  go_enter Tryd.func26, Tryd.ntmps26
  go_wp2
  go_loopg [3] k (fun kq v3 w' => ∃ (x3_1 : Int), v3 = .int .i64 x3_1 ∧ Aside0 (planispherelaw02_short.l0 kq l0 x3_1 = some r) ∧ Aside0 (kq ≤ k) ∧ Drawn0 w w')
  case atStart => exact ⟨(0), (by first | rfl | (simp; done) | (simp [*]; done)), H', ⟨Nat.le_refl _⟩, by repeat (first | exact Drawn0.refl _ | apply Drawn0.step)⟩
  case round =>
    clear H'
    obtain ⟨x3_1, rfl, HA, HK1, ⟨m1, rfl⟩⟩ := hrel
    cases gk with
    | zero => exact absurd HA.out (by simp [planispherelaw02_short.l0])
    | succ k1 =>
      have H := HA.out
      clear HA
      simp only [planispherelaw02_short.l0] at H
      by_cases c2 : x3_1 < (l0.length : Int)
      · rw [if_pos c2] at H
        have c2b0 : decide (x3_1 < (l0.length : Int)) = true := decide_eq_true c2
        clear c2
        by_cases c3 : 0 ≤ x3_1
        · rw [if_pos c3] at H
          have c3b0 : decide (0 ≤ x3_1) = true := decide_eq_true c3
          clear c3
          by_cases c4 : ((rdOf ByteArray.empty l0 x3_1).size : Int) > 300
          · rw [if_pos c4] at H
            have c4b0 : decide (300 < ((rdOf ByteArray.empty l0 x3_1).size : Int)) = true := decide_eq_true c4
            have c4b1 : decide (300 < (rdOf ByteArray.empty l0 x3_1).size) = true := decide_eq_true (by omega)
            clear c4
            obtain rfl := Option.some.inj H
            have p108 : 0 ≤ (x3_1 : Int) := of_decide_eq_true (by first | (with_reducible assumption) | assumption)
            have q108 : x3_1 < (l0.length : Int) := of_decide_eq_true (by first | (with_reducible assumption) | assumption)
            obtain ⟨ad108, e108, hx108_0⟩ := Kd.at_string HR0.out x3_1 p108 q108
            cases e108
            replace p108 := eq_true p108
            replace q108 := eq_true q108
            go_wp2
            go_ret
            exact ⟨by first | rfl | (simp; done) | (simp [*]; done), by repeat (first | exact Drawn0.refl _ | apply Drawn0.step)⟩
          · rw [if_neg c4] at H
            have c4b0 : decide (300 < ((rdOf ByteArray.empty l0 x3_1).size : Int)) = false := decide_eq_false c4
            have c4b1 : decide (300 < (rdOf ByteArray.empty l0 x3_1).size) = false := decide_eq_false (by omega)
            clear c4
            have H' := Aside0.mk H
            clear H
            have p108 : 0 ≤ (x3_1 : Int) := of_decide_eq_true (by first | (with_reducible assumption) | assumption)
            have q108 : x3_1 < (l0.length : Int) := of_decide_eq_true (by first | (with_reducible assumption) | assumption)
            obtain ⟨ad108, e108, hx108_0⟩ := Kd.at_string HR0.out x3_1 p108 q108
            cases e108
            replace p108 := eq_true p108
            replace q108 := eq_true q108
            go_wp2
            go_roundg k1
            case measure => have := HK1.out; omega
            case rel => exact ⟨(wrap64 (x3_1 + 1)), (by first | rfl | (simp; done) | (simp [*]; done)), H', ⟨by have := HK1.out; omega⟩, by repeat (first | exact Drawn0.refl _ | apply Drawn0.step)⟩
        · rw [if_neg c3] at H
          exact absurd H (by simp)
      · rw [if_neg c2] at H
        have c2b0 : decide (x3_1 < (l0.length : Int)) = false := decide_eq_false c2
        clear c2
        obtain rfl := Option.some.inj H
        go_wp2
        go_ret
        exact ⟨by first | rfl | (simp; done) | (simp [*]; done), by repeat (first | exact Drawn0.refl _ | apply Drawn0.step)⟩
end Go.Proofs.YteleheamnighkaaDoor.PBase
end
section
namespace Go.Proofs.YteleheamnighkaaDoor.PBase
open Go.RowKit Go.Proofs.YteleheamnighkaaDoorW.PrintWords Go.Proofs.YteleheamnighkaaDoorW.PrintLast Go.Proofs.YteleheamnighkaaDoorW.PrintMore
attribute [local go_sem] max2_int min2_int max_two min_two max_three min_three max_four min_four   -- for this text's walks alone
set_option linter.unusedVariables false
set_option linter.unusedSimpArgs false
mutual
def planisphereref02_Few.l0 : Nat → Int → Int → List ByteArray → List ByteArray → Option (Bool)
  | 0, _, _, _, _ => none
  | k + 1, x3, x110000, x110001, x110002 => if x3 < (x110001.length : Int) then (planisphereref02_Few.j1 k x3 (decide (x3 < 30)) x110000 x110001 x110002) else (planisphereref02_Few.j1 k x3 false x110000 x110001 x110002)
def planisphereref02_Few.j1 : Nat → Int → Bool → Int → List ByteArray → List ByteArray → Option (Bool)
  | 0, _, _, _, _, _ => none
  | k + 1, x3, x13, x110000, x110001, x110002 => if x13 = true then (if 0 ≤ x3 then (if x3 < (x110001.length : Int) then (if ((rdOf ByteArray.empty x110001 x3).size : Int) > 100 then (some false) else (planisphereref02_Few.l0 k (wrap64 (x3 + 1)) x110000 x110001 x110002)) else (none)) else (none)) else (planisphereref02_Few.l1 k 0 x110000 x110001 x110002)
def planisphereref02_Few.l1 : Nat → Int → Int → List ByteArray → List ByteArray → Option (Bool)
  | 0, _, _, _, _ => none
  | k + 1, x4, x110000, x110001, x110002 => if x4 < (x110002.length : Int) then (planisphereref02_Few.j3 k x4 (decide (x4 < 30)) x110000 x110001 x110002) else (planisphereref02_Few.j3 k x4 false x110000 x110001 x110002)
def planisphereref02_Few.j3 : Nat → Int → Bool → Int → List ByteArray → List ByteArray → Option (Bool)
  | 0, _, _, _, _, _ => none
  | k + 1, x4, x31, x110000, x110001, x110002 => if x31 = true then (if 0 ≤ x4 then (if x4 < (x110002.length : Int) then (if ((rdOf ByteArray.empty x110002 x4).size : Int) > 100 then (some false) else (planisphereref02_Few.l1 k (wrap64 (x4 + 1)) x110000 x110001 x110002)) else (none)) else (none)) else (if (x110001.length : Int) ≤ 30 then (some (decide ((x110002.length : Int) ≤ 30))) else (some false))
end
def planisphereref02_Few.f (k : Nat) (a0_0 : Int) (l0_1 : List ByteArray) (l0_2 : List ByteArray) : Option (Bool) := planisphereref02_Few.l0 k 0 a0_0 l0_1 l0_2
set_option maxHeartbeats 8000000 in
set_option maxRecDepth 100000 in
theorem planisphereref02_Few.calls (k : Nat) (a0_0 : Int) (A0_1 : Option Addr) (c0_1 : Nat) (l0_1 : List ByteArray) (A0_2 : Option Addr) (c0_2 : Nat) (l0_2 : List ByteArray) (r : Bool) (w : World) (hr0_1 : Kd.C Kd.string w A0_1 l0_1.length l0_1) (hc0_1 : l0_1.length ≤ c0_1) (hr0_2 : Kd.C Kd.string w A0_2 l0_2.length l0_2) (hc0_2 : l0_2.length ≤ c0_2) (h : planisphereref02_Few.f k a0_0 l0_1 l0_2 = some r) :
    Calls Tryd.prog 27 #[.agg #[.int .i64 a0_0, .slice A0_1 l0_1.length c0_1, .slice A0_2 l0_2.length c0_2]] w fun e w' => e = .returned (.bool r) ∧ Below w.heap.size w w' := by
  have hu35 := Tryd.underlying35
  have HR0_1 := Aside0.mk hr0_1
  have HC0_1 := Aside0.mk hc0_1
  clear hr0_1 hc0_1
  have HR0_2 := Aside0.mk hr0_2
  have HC0_2 := Aside0.mk hc0_2
  clear hr0_2 hc0_2
  have HB := Aside0.mk (Below.refl w.heap.size w)
  have H : (planisphereref02_Few.l0 k 0 a0_0 l0_1 l0_2) = some r := h
  clear h
  have H' := Aside0.mk H
  clear H
  go_enter Tryd.func27, Tryd.ntmps27
  go_wp2_with (first | ((with_reducible refine gate_dst (N := 1) rfl ?_); (try (refine gate_guard (by rfl) ?_; dsimp only)); refine box_event ?hg (N := 1) ?hd (cs := #[.int .i64 a0_0, .slice A0_1 l0_1.length c0_1, .slice A0_2 l0_2.length c0_2]) (t := 35) ?hr ?_; (case hd => rfl); (case hg => rfl); (case hr => first | (go_simp; done) | (go_simp; rfl)); intro gb109 hg w2 hbox hb; have n0_ := Aside0.mk (below_step (by repeat (first | (with_reducible first | exact HB.out | apply below_alloc | apply pw_below_drewN | apply below_drew1) | exact HB.out)) hb); have n1_ := Aside0.mk (hbox); have n2_ := Aside0.mk ((by rw [hg]; exact (below_size (by repeat (first | (with_reducible first | exact HB.out | apply below_alloc | apply pw_below_drewN | apply below_drew1) | exact HB.out))) : w.heap.size ≤ gb109)); have n3_ := Aside0.mk ((by rw [hg]; exact (below_size (by repeat (first | (with_reducible first | exact HB.out | apply below_alloc | apply pw_below_drewN | apply below_drew1) | exact HB.out))) : w.heap.size ≤ gb109)); clear HB; have HB := n0_; have BK109 := n1_; have GW109 := n2_; have GE109 := n3_; clear n0_ n1_ n2_ n3_; clear hb hbox hg))
  go_loopg [3] k (fun kq v3 w' => ∃ (x3_1 : Int), v3 = .int .i64 x3_1 ∧ Aside0 (planisphereref02_Few.l0 kq x3_1 a0_0 l0_1 l0_2 = some r) ∧ Aside0 (kq ≤ k) ∧ Aside0 (w'.heap[gb109]? = some (.cells #[.int .i64 a0_0, (.slice A0_1 l0_1.length c0_1), (.slice A0_2 l0_2.length c0_2)] 35 (0, 0))) ∧ Aside0 (Below w.heap.size w w'))
  case atStart => exact ⟨(0), (by first | rfl | (simp; done) | (simp [*]; done)), H', ⟨Nat.le_refl _⟩, ⟨by (with_reducible repeat (first | refine blk_drewN ?_ _ | refine blk_drew ?_ | refine blk_alloc ?_ _)); exact BK109.out⟩, ⟨by repeat (first | (with_reducible first | exact HB.out | apply below_alloc | apply pw_below_drewN | apply below_drew1 | refine below_set ?_ GE109.out) | exact HB.out)⟩⟩
  case round =>
    clear H'
    try clear c2
    try clear p2
    obtain ⟨x3_1, rfl, HA, HK1, BK109, HB⟩ := hrel
    cases gk with
    | zero => exact absurd HA.out (by simp [planisphereref02_Few.l0])
    | succ k1 =>
      have H := HA.out
      clear HA
      simp only [planisphereref02_Few.l0] at H
      have HC3 := Aside0.mk H
      clear H
      go_upto_region 2 with (fail)
      go_cut [13] (fun v13 wc => ∃ (kq : Nat) (x13_2 : Bool), v13 = .bool x13_2 ∧ Aside0 (planisphereref02_Few.j1 kq x3_1 x13_2 a0_0 l0_1 l0_2 = some r) ∧ Aside0 (kq ≤ k1) ∧ Aside0 (wc.heap[gb109]? = some (.cells #[.int .i64 a0_0, (.slice A0_1 l0_1.length c0_1), (.slice A0_2 l0_2.length c0_2)] 35 (0, 0))) ∧ Aside0 (Below w.heap.size w wc))
      case first =>
        have H := HC3.out
        clear HC3
        by_cases c4 : x3_1 < (l0_1.length : Int)
        · rw [if_pos c4] at H
          have c4b0 : decide (x3_1 < (l0_1.length : Int)) = true := decide_eq_true c4
          clear c4
          (first | rw [c4b0] | (simp only [i64_w, i32_w]; rw [c4b0]) | skip)
          have H' := Aside0.mk H
          clear H
          have hcz5_0 : wr.cell? ⟨gb109, 0, none⟩ = some (.int .i64 a0_0) := (blk_cell BK109.out 0).trans rfl
          have hcz5_1 : wr.cell? ⟨gb109, 1, none⟩ = some (.slice A0_1 l0_1.length c0_1) := (blk_cell BK109.out 1).trans rfl
          have hcz5_2 : wr.cell? ⟨gb109, 2, none⟩ = some (.slice A0_2 l0_2.length c0_2) := (blk_cell BK109.out 2).trans rfl
          have hfz5_0 := blk_frozen BK109.out 0
          have hfz5_1 := blk_frozen BK109.out 1
          have hfz5_2 := blk_frozen BK109.out 2
          go_wp2
          go_meet
          case rel => exact ⟨_, (decide (x3_1 < 30)), (by first | rfl | (simp; done) | (simp [*]; done)), H', ⟨by have := HK1.out; first | omega | exact Nat.le_refl _⟩, ⟨by (with_reducible repeat (first | refine blk_drewN ?_ _ | refine blk_drew ?_ | refine blk_alloc ?_ _)); exact BK109.out⟩, ⟨by repeat (first | (with_reducible first | exact HB.out | apply below_alloc | apply pw_below_drewN | apply below_drew1 | refine below_set ?_ GE109.out) | exact HB.out)⟩⟩
        · rw [if_neg c4] at H
          have c4b0 : decide (x3_1 < (l0_1.length : Int)) = false := decide_eq_false c4
          clear c4
          (first | rw [c4b0] | (simp only [i64_w, i32_w]; rw [c4b0]) | skip)
          have H' := Aside0.mk H
          clear H
          have hcz6_0 : wr.cell? ⟨gb109, 0, none⟩ = some (.int .i64 a0_0) := (blk_cell BK109.out 0).trans rfl
          have hcz6_1 : wr.cell? ⟨gb109, 1, none⟩ = some (.slice A0_1 l0_1.length c0_1) := (blk_cell BK109.out 1).trans rfl
          have hcz6_2 : wr.cell? ⟨gb109, 2, none⟩ = some (.slice A0_2 l0_2.length c0_2) := (blk_cell BK109.out 2).trans rfl
          have hfz6_0 := blk_frozen BK109.out 0
          have hfz6_1 := blk_frozen BK109.out 1
          have hfz6_2 := blk_frozen BK109.out 2
          go_wp2
          go_meet
          case rel => exact ⟨_, (false), (by first | rfl | (simp; done) | (simp [*]; done)), H', ⟨by have := HK1.out; first | omega | exact Nat.le_refl _⟩, ⟨by (with_reducible repeat (first | refine blk_drewN ?_ _ | refine blk_drew ?_ | refine blk_alloc ?_ _)); exact BK109.out⟩, ⟨by repeat (first | (with_reducible first | exact HB.out | apply below_alloc | apply pw_below_drewN | apply below_drew1 | refine below_set ?_ GE109.out) | exact HB.out)⟩⟩
      case rest =>
        clear HC3
        try clear c2
        try clear p2
        try clear c4
        try clear c4b0
        try clear hcz5_0
        try clear hcz5_1
        try clear hcz5_2
        try clear hcz6_0
        try clear hcz6_1
        try clear hcz6_2
        try clear hfz5_0
        try clear hfz5_1
        try clear hfz5_2
        try clear hfz6_0
        try clear hfz6_1
        try clear hfz6_2
        try clear p2
        obtain ⟨kq, x13_2, rfl, HA, HJ2, BK109, HB⟩ := hcut
        cases kq with
        | zero => exact absurd HA.out (by simp [planisphereref02_Few.j1])
        | succ kj2 =>
          have H := HA.out
          clear HA
          simp only [planisphereref02_Few.j1] at H
          by_cases c7 : x13_2 = true
          · subst c7
            have H1 : (if 0 ≤ x3_1 then (if x3_1 < (l0_1.length : Int) then (if ((rdOf ByteArray.empty l0_1 x3_1).size : Int) > 100 then (some false) else (planisphereref02_Few.l0 kj2 (wrap64 (x3_1 + 1)) a0_0 l0_1 l0_2)) else (none)) else (none)) = some r := by rw [if_pos rfl] at H; exact H
            clear H
            have H := H1
            clear H1
            by_cases c8 : 0 ≤ x3_1
            · rw [if_pos c8] at H
              have c8b0 : decide (0 ≤ x3_1) = true := decide_eq_true c8
              clear c8
              by_cases c9 : x3_1 < (l0_1.length : Int)
              · rw [if_pos c9] at H
                have c9b0 : decide (x3_1 < (l0_1.length : Int)) = true := decide_eq_true c9
                clear c9
                by_cases c10 : ((rdOf ByteArray.empty l0_1 x3_1).size : Int) > 100
                · rw [if_pos c10] at H
                  have c10b0 : decide (100 < ((rdOf ByteArray.empty l0_1 x3_1).size : Int)) = true := decide_eq_true c10
                  have c10b1 : decide (100 < (rdOf ByteArray.empty l0_1 x3_1).size) = true := decide_eq_true (by omega)
                  clear c10
                  obtain rfl := Option.some.inj H
                  have hcz11_0 : wc.cell? ⟨gb109, 0, none⟩ = some (.int .i64 a0_0) := (blk_cell BK109.out 0).trans rfl
                  have hcz11_1 : wc.cell? ⟨gb109, 1, none⟩ = some (.slice A0_1 l0_1.length c0_1) := (blk_cell BK109.out 1).trans rfl
                  have hcz11_2 : wc.cell? ⟨gb109, 2, none⟩ = some (.slice A0_2 l0_2.length c0_2) := (blk_cell BK109.out 2).trans rfl
                  have hfz11_0 := blk_frozen BK109.out 0
                  have hfz11_1 := blk_frozen BK109.out 1
                  have hfz11_2 := blk_frozen BK109.out 2
                  have p110 : 0 ≤ (x3_1 : Int) := of_decide_eq_true (by first | (with_reducible assumption) | assumption)
                  have q110 : x3_1 < (l0_1.length : Int) := of_decide_eq_true (by first | (with_reducible assumption) | assumption)
                  obtain ⟨ad110, e110, hx110_0⟩ := Kd.at_string HR0_1.out x3_1 p110 q110
                  cases e110
                  replace hx110_0 := (HB.out.cell (World.block_lt_of_cell? w _ hx110_0)).trans hx110_0
                  replace p110 := eq_true p110
                  replace q110 := eq_true q110
                  go_wp2
                  go_ret
                  exact ⟨by first | rfl | (simp [errW_none, errW_some] <;> rfl) | (simp [*, errW_none, errW_some] <;> rfl), by repeat (first | (with_reducible first | exact HB.out | apply below_alloc | apply pw_below_drewN | apply below_drew1 | refine below_set ?_ GE109.out) | exact HB.out)⟩
                · rw [if_neg c10] at H
                  have c10b0 : decide (100 < ((rdOf ByteArray.empty l0_1 x3_1).size : Int)) = false := decide_eq_false c10
                  have c10b1 : decide (100 < (rdOf ByteArray.empty l0_1 x3_1).size) = false := decide_eq_false (by omega)
                  clear c10
                  have H' := Aside0.mk H
                  clear H
                  have hcz12_0 : wc.cell? ⟨gb109, 0, none⟩ = some (.int .i64 a0_0) := (blk_cell BK109.out 0).trans rfl
                  have hcz12_1 : wc.cell? ⟨gb109, 1, none⟩ = some (.slice A0_1 l0_1.length c0_1) := (blk_cell BK109.out 1).trans rfl
                  have hcz12_2 : wc.cell? ⟨gb109, 2, none⟩ = some (.slice A0_2 l0_2.length c0_2) := (blk_cell BK109.out 2).trans rfl
                  have hfz12_0 := blk_frozen BK109.out 0
                  have hfz12_1 := blk_frozen BK109.out 1
                  have hfz12_2 := blk_frozen BK109.out 2
                  have p110 : 0 ≤ (x3_1 : Int) := of_decide_eq_true (by first | (with_reducible assumption) | assumption)
                  have q110 : x3_1 < (l0_1.length : Int) := of_decide_eq_true (by first | (with_reducible assumption) | assumption)
                  obtain ⟨ad110, e110, hx110_0⟩ := Kd.at_string HR0_1.out x3_1 p110 q110
                  cases e110
                  replace hx110_0 := (HB.out.cell (World.block_lt_of_cell? w _ hx110_0)).trans hx110_0
                  replace p110 := eq_true p110
                  replace q110 := eq_true q110
                  go_wp2
                  go_roundg kj2
                  case measure => have := HK1.out; have := HJ2.out; omega
                  case rel => exact ⟨(wrap64 (x3_1 + 1)), (by first | rfl | (simp; done) | (simp [*]; done)), H', ⟨by have := HK1.out; have := HJ2.out; omega⟩, ⟨by (with_reducible repeat (first | refine blk_drewN ?_ _ | refine blk_drew ?_ | refine blk_alloc ?_ _)); exact BK109.out⟩, ⟨by repeat (first | (with_reducible first | exact HB.out | apply below_alloc | apply pw_below_drewN | apply below_drew1 | refine below_set ?_ GE109.out) | exact HB.out)⟩⟩
              · rw [if_neg c9] at H
                exact absurd H (by simp)
            · rw [if_neg c8] at H
              exact absurd H (by simp)
          · replace c7 := Bool.eq_false_iff.mpr c7
            subst c7
            have H1 : (planisphereref02_Few.l1 kj2 0 a0_0 l0_1 l0_2) = some r := by rw [if_neg (show ¬ (false = true) by decide)] at H; exact H
            clear H
            have H := H1
            clear H1
            have H' := Aside0.mk H
            clear H
            go_wp2
            go_loopg [4] kj2 (fun kq v4 w' => ∃ (x4_3 : Int), v4 = .int .i64 x4_3 ∧ Aside0 (planisphereref02_Few.l1 kq x4_3 a0_0 l0_1 l0_2 = some r) ∧ Aside0 (kq ≤ kj2) ∧ Aside0 (w'.heap[gb109]? = some (.cells #[.int .i64 a0_0, (.slice A0_1 l0_1.length c0_1), (.slice A0_2 l0_2.length c0_2)] 35 (0, 0))) ∧ Aside0 (Below w.heap.size w w'))
            case atStart => exact ⟨(0), (by first | rfl | (simp; done) | (simp [*]; done)), H', ⟨Nat.le_refl _⟩, ⟨by (with_reducible repeat (first | refine blk_drewN ?_ _ | refine blk_drew ?_ | refine blk_alloc ?_ _)); exact BK109.out⟩, ⟨by repeat (first | (with_reducible first | exact HB.out | apply below_alloc | apply pw_below_drewN | apply below_drew1 | refine below_set ?_ GE109.out) | exact HB.out)⟩⟩
            case round =>
              clear H'
              try clear c1
              try clear p1
              try clear q1
              try clear hx1
              try clear c2
              try clear p2
              try clear c4
              try clear c4b0
              try clear p6
              try clear c7
              try clear c8
              try clear c8b0
              try clear c9
              try clear c9b0
              try clear c10
              try clear c10b0
              try clear c10b1
              try clear p11
              try clear q11
              try clear hx11
              try clear hcz11_0
              try clear hcz11_1
              try clear hcz11_2
              try clear hcz12_0
              try clear hcz12_1
              try clear hcz12_2
              try clear hcz5_0
              try clear hcz5_1
              try clear hcz5_2
              try clear hcz6_0
              try clear hcz6_1
              try clear hcz6_2
              try clear hfz11_0
              try clear hfz11_1
              try clear hfz11_2
              try clear hfz12_0
              try clear hfz12_1
              try clear hfz12_2
              try clear hfz5_0
              try clear hfz5_1
              try clear hfz5_2
              try clear hfz6_0
              try clear hfz6_1
              try clear hfz6_2
              try clear hx110_0
              try clear p110
              try clear p2
              try clear q110
              obtain ⟨x4_3, rfl, HA, HK3, BK109, HB⟩ := hrel
              cases gk with
              | zero => exact absurd HA.out (by simp [planisphereref02_Few.l1])
              | succ k3 =>
                have H := HA.out
                clear HA
                simp only [planisphereref02_Few.l1] at H
                have HC13 := Aside0.mk H
                clear H
                go_upto_region 7 with (fail)
                go_cut [31] (fun v31 wc => ∃ (kq : Nat) (x31_12 : Bool), v31 = .bool x31_12 ∧ Aside0 (planisphereref02_Few.j3 kq x4_3 x31_12 a0_0 l0_1 l0_2 = some r) ∧ Aside0 (kq ≤ k3) ∧ Aside0 (wc.heap[gb109]? = some (.cells #[.int .i64 a0_0, (.slice A0_1 l0_1.length c0_1), (.slice A0_2 l0_2.length c0_2)] 35 (0, 0))) ∧ Aside0 (Below w.heap.size w wc))
                case first =>
                  have H := HC13.out
                  clear HC13
                  by_cases c14 : x4_3 < (l0_2.length : Int)
                  · rw [if_pos c14] at H
                    have c14b0 : decide (x4_3 < (l0_2.length : Int)) = true := decide_eq_true c14
                    clear c14
                    (first | rw [c14b0] | (simp only [i64_w, i32_w]; rw [c14b0]) | skip)
                    have H' := Aside0.mk H
                    clear H
                    have hcz15_0 : wr.cell? ⟨gb109, 0, none⟩ = some (.int .i64 a0_0) := (blk_cell BK109.out 0).trans rfl
                    have hcz15_1 : wr.cell? ⟨gb109, 1, none⟩ = some (.slice A0_1 l0_1.length c0_1) := (blk_cell BK109.out 1).trans rfl
                    have hcz15_2 : wr.cell? ⟨gb109, 2, none⟩ = some (.slice A0_2 l0_2.length c0_2) := (blk_cell BK109.out 2).trans rfl
                    have hfz15_0 := blk_frozen BK109.out 0
                    have hfz15_1 := blk_frozen BK109.out 1
                    have hfz15_2 := blk_frozen BK109.out 2
                    go_wp2
                    go_meet
                    case rel => exact ⟨_, (decide (x4_3 < 30)), (by first | rfl | (simp; done) | (simp [*]; done)), H', ⟨by have := HK1.out; have := HJ2.out; have := HK3.out; first | omega | exact Nat.le_refl _⟩, ⟨by (with_reducible repeat (first | refine blk_drewN ?_ _ | refine blk_drew ?_ | refine blk_alloc ?_ _)); exact BK109.out⟩, ⟨by repeat (first | (with_reducible first | exact HB.out | apply below_alloc | apply pw_below_drewN | apply below_drew1 | refine below_set ?_ GE109.out) | exact HB.out)⟩⟩
                  · rw [if_neg c14] at H
                    have c14b0 : decide (x4_3 < (l0_2.length : Int)) = false := decide_eq_false c14
                    clear c14
                    (first | rw [c14b0] | (simp only [i64_w, i32_w]; rw [c14b0]) | skip)
                    have H' := Aside0.mk H
                    clear H
                    have hcz16_0 : wr.cell? ⟨gb109, 0, none⟩ = some (.int .i64 a0_0) := (blk_cell BK109.out 0).trans rfl
                    have hcz16_1 : wr.cell? ⟨gb109, 1, none⟩ = some (.slice A0_1 l0_1.length c0_1) := (blk_cell BK109.out 1).trans rfl
                    have hcz16_2 : wr.cell? ⟨gb109, 2, none⟩ = some (.slice A0_2 l0_2.length c0_2) := (blk_cell BK109.out 2).trans rfl
                    have hfz16_0 := blk_frozen BK109.out 0
                    have hfz16_1 := blk_frozen BK109.out 1
                    have hfz16_2 := blk_frozen BK109.out 2
                    go_wp2
                    go_meet
                    case rel => exact ⟨_, (false), (by first | rfl | (simp; done) | (simp [*]; done)), H', ⟨by have := HK1.out; have := HJ2.out; have := HK3.out; first | omega | exact Nat.le_refl _⟩, ⟨by (with_reducible repeat (first | refine blk_drewN ?_ _ | refine blk_drew ?_ | refine blk_alloc ?_ _)); exact BK109.out⟩, ⟨by repeat (first | (with_reducible first | exact HB.out | apply below_alloc | apply pw_below_drewN | apply below_drew1 | refine below_set ?_ GE109.out) | exact HB.out)⟩⟩
                case rest =>
                  clear HC13
                  try clear c1
                  try clear p1
                  try clear q1
                  try clear hx1
                  try clear c2
                  try clear p2
                  try clear c4
                  try clear c4b0
                  try clear p6
                  try clear c7
                  try clear c8
                  try clear c8b0
                  try clear c9
                  try clear c9b0
                  try clear c10
                  try clear c10b0
                  try clear c10b1
                  try clear p11
                  try clear q11
                  try clear hx11
                  try clear c14
                  try clear c14b0
                  try clear hcz11_0
                  try clear hcz11_1
                  try clear hcz11_2
                  try clear hcz12_0
                  try clear hcz12_1
                  try clear hcz12_2
                  try clear hcz15_0
                  try clear hcz15_1
                  try clear hcz15_2
                  try clear hcz16_0
                  try clear hcz16_1
                  try clear hcz16_2
                  try clear hcz5_0
                  try clear hcz5_1
                  try clear hcz5_2
                  try clear hcz6_0
                  try clear hcz6_1
                  try clear hcz6_2
                  try clear hfz11_0
                  try clear hfz11_1
                  try clear hfz11_2
                  try clear hfz12_0
                  try clear hfz12_1
                  try clear hfz12_2
                  try clear hfz15_0
                  try clear hfz15_1
                  try clear hfz15_2
                  try clear hfz16_0
                  try clear hfz16_1
                  try clear hfz16_2
                  try clear hfz5_0
                  try clear hfz5_1
                  try clear hfz5_2
                  try clear hfz6_0
                  try clear hfz6_1
                  try clear hfz6_2
                  try clear hx110_0
                  try clear p1
                  try clear p11
                  try clear p110
                  try clear p2
                  try clear p6
                  try clear q1
                  try clear q11
                  try clear q110
                  obtain ⟨kq, x31_12, rfl, HA, HJ12, BK109, HB⟩ := hcut
                  cases kq with
                  | zero => exact absurd HA.out (by simp [planisphereref02_Few.j3])
                  | succ kj12 =>
                    have H := HA.out
                    clear HA
                    simp only [planisphereref02_Few.j3] at H
                    by_cases c17 : x31_12 = true
                    · subst c17
                      have H1 : (if 0 ≤ x4_3 then (if x4_3 < (l0_2.length : Int) then (if ((rdOf ByteArray.empty l0_2 x4_3).size : Int) > 100 then (some false) else (planisphereref02_Few.l1 kj12 (wrap64 (x4_3 + 1)) a0_0 l0_1 l0_2)) else (none)) else (none)) = some r := by rw [if_pos rfl] at H; exact H
                      clear H
                      have H := H1
                      clear H1
                      by_cases c18 : 0 ≤ x4_3
                      · rw [if_pos c18] at H
                        have c18b0 : decide (0 ≤ x4_3) = true := decide_eq_true c18
                        clear c18
                        by_cases c19 : x4_3 < (l0_2.length : Int)
                        · rw [if_pos c19] at H
                          have c19b0 : decide (x4_3 < (l0_2.length : Int)) = true := decide_eq_true c19
                          clear c19
                          by_cases c20 : ((rdOf ByteArray.empty l0_2 x4_3).size : Int) > 100
                          · rw [if_pos c20] at H
                            have c20b0 : decide (100 < ((rdOf ByteArray.empty l0_2 x4_3).size : Int)) = true := decide_eq_true c20
                            have c20b1 : decide (100 < (rdOf ByteArray.empty l0_2 x4_3).size) = true := decide_eq_true (by omega)
                            clear c20
                            obtain rfl := Option.some.inj H
                            have hcz21_0 : wc.cell? ⟨gb109, 0, none⟩ = some (.int .i64 a0_0) := (blk_cell BK109.out 0).trans rfl
                            have hcz21_1 : wc.cell? ⟨gb109, 1, none⟩ = some (.slice A0_1 l0_1.length c0_1) := (blk_cell BK109.out 1).trans rfl
                            have hcz21_2 : wc.cell? ⟨gb109, 2, none⟩ = some (.slice A0_2 l0_2.length c0_2) := (blk_cell BK109.out 2).trans rfl
                            have hfz21_0 := blk_frozen BK109.out 0
                            have hfz21_1 := blk_frozen BK109.out 1
                            have hfz21_2 := blk_frozen BK109.out 2
                            have p111 : 0 ≤ (x4_3 : Int) := of_decide_eq_true (by first | (with_reducible assumption) | assumption)
                            have q111 : x4_3 < (l0_2.length : Int) := of_decide_eq_true (by first | (with_reducible assumption) | assumption)
                            obtain ⟨ad111, e111, hx111_0⟩ := Kd.at_string HR0_2.out x4_3 p111 q111
                            cases e111
                            replace hx111_0 := (HB.out.cell (World.block_lt_of_cell? w _ hx111_0)).trans hx111_0
                            replace p111 := eq_true p111
                            replace q111 := eq_true q111
                            go_wp2
                            go_ret
                            exact ⟨by first | rfl | (simp [errW_none, errW_some] <;> rfl) | (simp [*, errW_none, errW_some] <;> rfl), by repeat (first | (with_reducible first | exact HB.out | apply below_alloc | apply pw_below_drewN | apply below_drew1 | refine below_set ?_ GE109.out) | exact HB.out)⟩
                          · rw [if_neg c20] at H
                            have c20b0 : decide (100 < ((rdOf ByteArray.empty l0_2 x4_3).size : Int)) = false := decide_eq_false c20
                            have c20b1 : decide (100 < (rdOf ByteArray.empty l0_2 x4_3).size) = false := decide_eq_false (by omega)
                            clear c20
                            have H' := Aside0.mk H
                            clear H
                            have hcz22_0 : wc.cell? ⟨gb109, 0, none⟩ = some (.int .i64 a0_0) := (blk_cell BK109.out 0).trans rfl
                            have hcz22_1 : wc.cell? ⟨gb109, 1, none⟩ = some (.slice A0_1 l0_1.length c0_1) := (blk_cell BK109.out 1).trans rfl
                            have hcz22_2 : wc.cell? ⟨gb109, 2, none⟩ = some (.slice A0_2 l0_2.length c0_2) := (blk_cell BK109.out 2).trans rfl
                            have hfz22_0 := blk_frozen BK109.out 0
                            have hfz22_1 := blk_frozen BK109.out 1
                            have hfz22_2 := blk_frozen BK109.out 2
                            have p111 : 0 ≤ (x4_3 : Int) := of_decide_eq_true (by first | (with_reducible assumption) | assumption)
                            have q111 : x4_3 < (l0_2.length : Int) := of_decide_eq_true (by first | (with_reducible assumption) | assumption)
                            obtain ⟨ad111, e111, hx111_0⟩ := Kd.at_string HR0_2.out x4_3 p111 q111
                            cases e111
                            replace hx111_0 := (HB.out.cell (World.block_lt_of_cell? w _ hx111_0)).trans hx111_0
                            replace p111 := eq_true p111
                            replace q111 := eq_true q111
                            go_wp2
                            go_roundg kj12
                            case measure => have := HK1.out; have := HJ2.out; have := HK3.out; have := HJ12.out; omega
                            case rel => exact ⟨(wrap64 (x4_3 + 1)), (by first | rfl | (simp; done) | (simp [*]; done)), H', ⟨by have := HK1.out; have := HJ2.out; have := HK3.out; have := HJ12.out; omega⟩, ⟨by (with_reducible repeat (first | refine blk_drewN ?_ _ | refine blk_drew ?_ | refine blk_alloc ?_ _)); exact BK109.out⟩, ⟨by repeat (first | (with_reducible first | exact HB.out | apply below_alloc | apply pw_below_drewN | apply below_drew1 | refine below_set ?_ GE109.out) | exact HB.out)⟩⟩
                        · rw [if_neg c19] at H
                          exact absurd H (by simp)
                      · rw [if_neg c18] at H
                        exact absurd H (by simp)
                    · replace c17 := Bool.eq_false_iff.mpr c17
                      subst c17
                      have H1 : (if (l0_1.length : Int) ≤ 30 then (some (decide ((l0_2.length : Int) ≤ 30))) else (some false)) = some r := by rw [if_neg (show ¬ (false = true) by decide)] at H; exact H
                      clear H
                      have H := H1
                      clear H1
                      by_cases c23 : (l0_1.length : Int) ≤ 30
                      · rw [if_pos c23] at H
                        have c23b0 : decide ((l0_1.length : Int) ≤ 30) = true := decide_eq_true c23
                        have c23b1 : decide (l0_1.length ≤ 30) = true := decide_eq_true (by omega)
                        clear c23
                        obtain rfl := Option.some.inj H
                        have hcz24_0 : wc.cell? ⟨gb109, 0, none⟩ = some (.int .i64 a0_0) := (blk_cell BK109.out 0).trans rfl
                        have hcz24_1 : wc.cell? ⟨gb109, 1, none⟩ = some (.slice A0_1 l0_1.length c0_1) := (blk_cell BK109.out 1).trans rfl
                        have hcz24_2 : wc.cell? ⟨gb109, 2, none⟩ = some (.slice A0_2 l0_2.length c0_2) := (blk_cell BK109.out 2).trans rfl
                        have hfz24_0 := blk_frozen BK109.out 0
                        have hfz24_1 := blk_frozen BK109.out 1
                        have hfz24_2 := blk_frozen BK109.out 2
                        go_wp2
                        go_ret
                        exact ⟨by first | rfl | (simp [errW_none, errW_some] <;> rfl) | (simp [*, errW_none, errW_some] <;> rfl), by repeat (first | (with_reducible first | exact HB.out | apply below_alloc | apply pw_below_drewN | apply below_drew1 | refine below_set ?_ GE109.out) | exact HB.out)⟩
                      · rw [if_neg c23] at H
                        have c23b0 : decide ((l0_1.length : Int) ≤ 30) = false := decide_eq_false c23
                        have c23b1 : decide (l0_1.length ≤ 30) = false := decide_eq_false (by omega)
                        clear c23
                        obtain rfl := Option.some.inj H
                        have hcz25_0 : wc.cell? ⟨gb109, 0, none⟩ = some (.int .i64 a0_0) := (blk_cell BK109.out 0).trans rfl
                        have hcz25_1 : wc.cell? ⟨gb109, 1, none⟩ = some (.slice A0_1 l0_1.length c0_1) := (blk_cell BK109.out 1).trans rfl
                        have hcz25_2 : wc.cell? ⟨gb109, 2, none⟩ = some (.slice A0_2 l0_2.length c0_2) := (blk_cell BK109.out 2).trans rfl
                        have hfz25_0 := blk_frozen BK109.out 0
                        have hfz25_1 := blk_frozen BK109.out 1
                        have hfz25_2 := blk_frozen BK109.out 2
                        go_wp2
                        go_ret
                        exact ⟨by first | rfl | (simp [errW_none, errW_some] <;> rfl) | (simp [*, errW_none, errW_some] <;> rfl), by repeat (first | (with_reducible first | exact HB.out | apply below_alloc | apply pw_below_drewN | apply below_drew1 | refine below_set ?_ GE109.out) | exact HB.out)⟩
def planisphereref02_Power.l0 : Nat → Int → Int → Int → Option (Int)
  | 0, _, _, _ => none
  | k + 1, x0, x3, x4 => if x4 < x0 then (planisphereref02_Power.l0 k x0 (wrap64 (2 * x3)) (wrap64 (x4 + 1))) else (some x3)
def planisphereref02_Power.f (k : Nat) (a0 : Int) : Option (Int) := planisphereref02_Power.l0 k a0 1 0
set_option maxHeartbeats 8000000 in
set_option maxRecDepth 100000 in
theorem planisphereref02_Power.calls (k : Nat) (a0 : Int) (r : Int) (w : World) (h : planisphereref02_Power.f k a0 = some r) :
    Calls Tryd.prog 55 #[.int .i64 a0] w fun e w' => e = .returned (.int .i64 r) ∧ Drawn0 w w' := by
  have H : (planisphereref02_Power.l0 k a0 1 0) = some r := h
  clear h
  have H' := Aside0.mk H
  clear H
  go_enter Tryd.func55, Tryd.ntmps55
  go_wp2
  go_loopg [3, 4] k (fun kq v3 v4 w' => ∃ (x3_1 : Int) (x4_1 : Int), v3 = .int .i64 x3_1 ∧ v4 = .int .i64 x4_1 ∧ Aside0 (planisphereref02_Power.l0 kq a0 x3_1 x4_1 = some r) ∧ Aside0 (kq ≤ k) ∧ Drawn0 w w')
  case atStart => exact ⟨(1), (0), (by first | rfl | (simp; done) | (simp [*]; done)), (by first | rfl | (simp; done) | (simp [*]; done)), H', ⟨Nat.le_refl _⟩, by repeat (first | exact Drawn0.refl _ | apply Drawn0.step)⟩
  case round =>
    clear H'
    obtain ⟨x3_1, x4_1, rfl, rfl, HA, HK1, ⟨m1, rfl⟩⟩ := hrel
    cases gk with
    | zero => exact absurd HA.out (by simp [planisphereref02_Power.l0])
    | succ k1 =>
      have H := HA.out
      clear HA
      simp only [planisphereref02_Power.l0] at H
      by_cases c2 : x4_1 < a0
      · rw [if_pos c2] at H
        have c2b0 : decide (x4_1 < a0) = true := decide_eq_true c2
        clear c2
        have H' := Aside0.mk H
        clear H
        go_wp2
        go_roundg k1
        case measure => have := HK1.out; omega
        case rel => exact ⟨(wrap64 (2 * x3_1)), (wrap64 (x4_1 + 1)), (by first | rfl | (simp; done) | (simp [*]; done)), (by first | rfl | (simp; done) | (simp [*]; done)), H', ⟨by have := HK1.out; omega⟩, by repeat (first | exact Drawn0.refl _ | apply Drawn0.step)⟩
      · rw [if_neg c2] at H
        have c2b0 : decide (x4_1 < a0) = false := decide_eq_false c2
        clear c2
        obtain rfl := Option.some.inj H
        go_wp2
        go_ret
        exact ⟨by first | rfl | (simp; done) | (simp [*]; done), by repeat (first | exact Drawn0.refl _ | apply Drawn0.step)⟩
def planisphereref02_Same.f (k : Nat) (a0_0 : Int) (l0_1 : List ByteArray) (l0_2 : List ByteArray) (a1_0 : Int) (l1_1 : List ByteArray) (l1_2 : List ByteArray) : Option (Bool) := if a0_0 = a1_0 then ((planisphereref01_Same.f k l0_1 l1_1).bind fun t114 => (if t114 = true then ((planisphereref01_Same.f k l0_2 l1_2).bind fun t115 => (some t115)) else (some false))) else (some false)
set_option maxHeartbeats 8000000 in
set_option maxRecDepth 100000 in
theorem planisphereref02_Same.calls (k : Nat) (a0_0 : Int) (A0_1 : Option Addr) (c0_1 : Nat) (l0_1 : List ByteArray) (A0_2 : Option Addr) (c0_2 : Nat) (l0_2 : List ByteArray) (a1_0 : Int) (A1_1 : Option Addr) (c1_1 : Nat) (l1_1 : List ByteArray) (A1_2 : Option Addr) (c1_2 : Nat) (l1_2 : List ByteArray) (r : Bool) (w : World) (hr0_1 : Kd.C Kd.string w A0_1 l0_1.length l0_1) (hc0_1 : l0_1.length ≤ c0_1) (hr0_2 : Kd.C Kd.string w A0_2 l0_2.length l0_2) (hc0_2 : l0_2.length ≤ c0_2) (hr1_1 : Kd.C Kd.string w A1_1 l1_1.length l1_1) (hc1_1 : l1_1.length ≤ c1_1) (hr1_2 : Kd.C Kd.string w A1_2 l1_2.length l1_2) (hc1_2 : l1_2.length ≤ c1_2) (h : planisphereref02_Same.f k a0_0 l0_1 l0_2 a1_0 l1_1 l1_2 = some r) :
    Calls Tryd.prog 32 #[.agg #[.int .i64 a0_0, .slice A0_1 l0_1.length c0_1, .slice A0_2 l0_2.length c0_2], .agg #[.int .i64 a1_0, .slice A1_1 l1_1.length c1_1, .slice A1_2 l1_2.length c1_2]] w fun e w' => e = .returned (.bool r) ∧ Below w.heap.size w w' := by
  have hu35 := Tryd.underlying35
  have HR0_1 := Aside0.mk hr0_1
  have HC0_1 := Aside0.mk hc0_1
  clear hr0_1 hc0_1
  have HR0_2 := Aside0.mk hr0_2
  have HC0_2 := Aside0.mk hc0_2
  clear hr0_2 hc0_2
  have HR1_1 := Aside0.mk hr1_1
  have HC1_1 := Aside0.mk hc1_1
  clear hr1_1 hc1_1
  have HR1_2 := Aside0.mk hr1_2
  have HC1_2 := Aside0.mk hc1_2
  clear hr1_2 hc1_2
  have HB := Aside0.mk (Below.refl w.heap.size w)
  have H : (if a0_0 = a1_0 then ((planisphereref01_Same.f k l0_1 l1_1).bind fun t114 => (if t114 = true then ((planisphereref01_Same.f k l0_2 l1_2).bind fun t115 => (some t115)) else (some false))) else (some false)) = some r := h
  clear h
  by_cases c3 : a0_0 = a1_0
  · rw [if_pos c3] at H
    have c3b0 : (a0_0 == a1_0) = true := beq_iff_eq.mpr c3
    have c3b1 : (a0_0 != a1_0) = false := bne_eq_false_iff_eq.mpr c3
    clear c3
    replace H := Option.bind_eq_some_iff.mp H
    obtain ⟨t114, A40, H⟩ := H
    replace H : (if t114 = true then ((planisphereref01_Same.f k l0_2 l1_2).bind fun t115 => (some t115)) else (some false)) = some r := H
    have A4 := Aside0.mk A40
    clear A40
    by_cases c5 : t114 = true
    · subst c5
      have H1 : ((planisphereref01_Same.f k l0_2 l1_2).bind fun t115 => (some t115)) = some r := by rw [if_pos rfl] at H; exact H
      clear H
      have H := H1
      clear H1
      replace H := Option.bind_eq_some_iff.mp H
      obtain ⟨t115, A60, H⟩ := H
      replace H : (some t115) = some r := H
      have A6 := Aside0.mk A60
      clear A60
      obtain rfl := Option.some.inj H
      go_enter Tryd.func32, Tryd.ntmps32
      go_wp2_with (first | ((with_reducible refine gate_dst (N := 2) rfl ?_); refine box_event ?hg (N := 2) ?hd (cs := #[.int .i64 a0_0, .slice A0_1 l0_1.length c0_1, .slice A0_2 l0_2.length c0_2]) (t := 35) ?hr ?_; (case hd => rfl); (case hg => rfl); (case hr => first | (go_simp; done) | (go_simp; rfl)); intro gb112 hg w7 hbox hb; have n0_ := Aside0.mk (below_step (by repeat (first | (with_reducible first | exact HB.out | apply below_alloc | apply pw_below_drewN | apply below_drew1) | exact HB.out)) hb); have n1_ := Aside0.mk (hbox); have n2_ := Aside0.mk ((by rw [hg]; exact (below_size (by repeat (first | (with_reducible first | exact HB.out | apply below_alloc | apply pw_below_drewN | apply below_drew1) | exact HB.out))) : w.heap.size ≤ gb112)); have n3_ := Aside0.mk ((by rw [hg]; exact (below_size (by repeat (first | (with_reducible first | exact HB.out | apply below_alloc | apply pw_below_drewN | apply below_drew1) | exact HB.out))) : w.heap.size ≤ gb112)); clear HB; have HB := n0_; have BK112 := n1_; have GW112 := n2_; have GE112 := n3_; clear n0_ n1_ n2_ n3_; clear hb hbox hg) | ((with_reducible refine gate_dst (N := 3) rfl ?_); refine box_event ?hg (N := 3) ?hd (cs := #[.int .i64 a1_0, .slice A1_1 l1_1.length c1_1, .slice A1_2 l1_2.length c1_2]) (t := 35) ?hr ?_; (case hd => rfl); (case hg => rfl); (case hr => first | (go_simp; done) | (go_simp; rfl)); intro gb113 hg w8 hbox hb; have n0_ := Aside0.mk (blk_below (g := gb112) (o := .cells #[.int .i64 a0_0, .slice A0_1 l0_1.length c0_1, .slice A0_2 l0_2.length c0_2] 35 (0, 0)) (by (with_reducible repeat (first | refine blk_drewN ?_ _ | refine blk_drew ?_ | refine blk_alloc ?_ _)); exact BK112.out) hb); have n1_ := Aside0.mk (below_step (by repeat (first | (with_reducible first | exact HB.out | apply below_alloc | apply pw_below_drewN | apply below_drew1 | refine below_set ?_ GE112.out) | exact HB.out)) hb); have n2_ := Aside0.mk (hbox); have n3_ := Aside0.mk ((by rw [hg]; exact (below_size (by repeat (first | (with_reducible first | exact HB.out | apply below_alloc | apply pw_below_drewN | apply below_drew1 | refine below_set ?_ GE112.out) | exact HB.out))) : w.heap.size ≤ gb113)); have n4_ := Aside0.mk ((by rw [hg]; exact (below_size (by repeat (first | (with_reducible first | exact HB.out | apply below_alloc | apply pw_below_drewN | apply below_drew1 | refine below_set ?_ GE112.out) | exact HB.out))) : w.heap.size ≤ gb113)); have n5_ := Aside0.mk ((by rw [hg]; exact Nat.ne_of_lt (blk_lt (g := gb112) (o := .cells #[.int .i64 a0_0, .slice A0_1 l0_1.length c0_1, .slice A0_2 l0_2.length c0_2] 35 (0, 0)) (by (with_reducible repeat (first | refine blk_drewN ?_ _ | refine blk_drew ?_ | refine blk_alloc ?_ _)); exact BK112.out)) : gb112 ≠ gb113)); have n6_ := Aside0.mk ((by rw [hg]; exact Nat.ne_of_gt (blk_lt (g := gb112) (o := .cells #[.int .i64 a0_0, .slice A0_1 l0_1.length c0_1, .slice A0_2 l0_2.length c0_2] 35 (0, 0)) (by (with_reducible repeat (first | refine blk_drewN ?_ _ | refine blk_drew ?_ | refine blk_alloc ?_ _)); exact BK112.out)) : gb113 ≠ gb112)); clear BK112; clear HB; have BK112 := n0_; have HB := n1_; have BK113 := n2_; have GW113 := n3_; have GE113 := n4_; have NB112_113 := n5_; have NB113_112 := n6_; clear n0_ n1_ n2_ n3_ n4_ n5_ n6_; clear hb hbox hg; have hnb9 := NB112_113.out; have hnc9 := NB113_112.out; have hcz10_0 : w8.cell? ⟨gb112, 0, none⟩ = some (.int .i64 a0_0) := (blk_cell BK112.out 0).trans rfl; have hcz10_1 : w8.cell? ⟨gb112, 1, none⟩ = some (.slice A0_1 l0_1.length c0_1) := (blk_cell BK112.out 1).trans rfl; have hcz10_2 : w8.cell? ⟨gb112, 2, none⟩ = some (.slice A0_2 l0_2.length c0_2) := (blk_cell BK112.out 2).trans rfl; have hfz10_0 := blk_frozen BK112.out 0; have hfz10_1 := blk_frozen BK112.out 1; have hfz10_2 := blk_frozen BK112.out 2; have hcz11_0 : w8.cell? ⟨gb113, 0, none⟩ = some (.int .i64 a1_0) := (blk_cell BK113.out 0).trans rfl; have hcz11_1 : w8.cell? ⟨gb113, 1, none⟩ = some (.slice A1_1 l1_1.length c1_1) := (blk_cell BK113.out 1).trans rfl; have hcz11_2 : w8.cell? ⟨gb113, 2, none⟩ = some (.slice A1_2 l1_2.length c1_2) := (blk_cell BK113.out 2).trans rfl; have hfz11_0 := blk_frozen BK113.out 0; have hfz11_1 := blk_frozen BK113.out 1; have hfz11_2 := blk_frozen BK113.out 2) | (go_at_call 24; (with_reducible refine (planisphereref01_Same.calls k _ _ l0_1 _ _ l1_1 true _ ?side1 ?side2 ?side3 ?side4 A4.out).mono ?_); (case side1 => repeat (first | exact (Kd.C_below HR0_1.out HB.out) | (with_reducible refine Kd.C_alloc ?_ _) | (with_reducible refine Kd.C_drewN ?_ _) | (with_reducible refine Kd.C_drew ?_))); (case side2 => exact HC0_1.out); (case side3 => repeat (first | exact (Kd.C_below HR1_1.out HB.out) | (with_reducible refine Kd.C_alloc ?_ _) | (with_reducible refine Kd.C_drewN ?_ _) | (with_reducible refine Kd.C_drew ?_))); (case side4 => exact HC1_1.out); rintro e w' ⟨rfl, ⟨nd, rfl⟩⟩) | (go_at_call 24; (with_reducible refine (planisphereref01_Same.calls k _ _ l0_2 _ _ l1_2 t115 _ ?side1 ?side2 ?side3 ?side4 A6.out).mono ?_); (case side1 => repeat (first | exact (Kd.C_below HR0_2.out (by repeat (first | (with_reducible first | exact HB.out | apply below_alloc | apply pw_below_drewN | apply below_drew1 | refine below_set ?_ GE112.out | refine below_set ?_ GE113.out) | exact HB.out))) | (with_reducible refine Kd.C_alloc ?_ _) | (with_reducible refine Kd.C_drewN ?_ _) | (with_reducible refine Kd.C_drew ?_))); (case side2 => exact HC0_2.out); (case side3 => repeat (first | exact (Kd.C_below HR1_2.out (by repeat (first | (with_reducible first | exact HB.out | apply below_alloc | apply pw_below_drewN | apply below_drew1 | refine below_set ?_ GE112.out | refine below_set ?_ GE113.out) | exact HB.out))) | (with_reducible refine Kd.C_alloc ?_ _) | (with_reducible refine Kd.C_drewN ?_ _) | (with_reducible refine Kd.C_drew ?_))); (case side4 => exact HC1_2.out); rintro e w' ⟨rfl, ⟨nd, rfl⟩⟩))
      go_ret
      exact ⟨by first | rfl | (simp [errW_none, errW_some] <;> rfl) | (simp [*, errW_none, errW_some] <;> rfl), by repeat (first | (with_reducible first | exact HB.out | apply below_alloc | apply pw_below_drewN | apply below_drew1 | refine below_set ?_ GE112.out | refine below_set ?_ GE113.out) | exact HB.out)⟩
    · replace c5 := Bool.eq_false_iff.mpr c5
      subst c5
      have H1 : (some false) = some r := by rw [if_neg (show ¬ (false = true) by decide)] at H; exact H
      clear H
      have H := H1
      clear H1
      obtain rfl := Option.some.inj H
      go_enter Tryd.func32, Tryd.ntmps32
      go_wp2_with (first | ((with_reducible refine gate_dst (N := 2) rfl ?_); refine box_event ?hg (N := 2) ?hd (cs := #[.int .i64 a0_0, .slice A0_1 l0_1.length c0_1, .slice A0_2 l0_2.length c0_2]) (t := 35) ?hr ?_; (case hd => rfl); (case hg => rfl); (case hr => first | (go_simp; done) | (go_simp; rfl)); intro gb112 hg w12 hbox hb; have n0_ := Aside0.mk (below_step (by repeat (first | (with_reducible first | exact HB.out | apply below_alloc | apply pw_below_drewN | apply below_drew1) | exact HB.out)) hb); have n1_ := Aside0.mk (hbox); have n2_ := Aside0.mk ((by rw [hg]; exact (below_size (by repeat (first | (with_reducible first | exact HB.out | apply below_alloc | apply pw_below_drewN | apply below_drew1) | exact HB.out))) : w.heap.size ≤ gb112)); have n3_ := Aside0.mk ((by rw [hg]; exact (below_size (by repeat (first | (with_reducible first | exact HB.out | apply below_alloc | apply pw_below_drewN | apply below_drew1) | exact HB.out))) : w.heap.size ≤ gb112)); clear HB; have HB := n0_; have BK112 := n1_; have GW112 := n2_; have GE112 := n3_; clear n0_ n1_ n2_ n3_; clear hb hbox hg) | ((with_reducible refine gate_dst (N := 3) rfl ?_); refine box_event ?hg (N := 3) ?hd (cs := #[.int .i64 a1_0, .slice A1_1 l1_1.length c1_1, .slice A1_2 l1_2.length c1_2]) (t := 35) ?hr ?_; (case hd => rfl); (case hg => rfl); (case hr => first | (go_simp; done) | (go_simp; rfl)); intro gb113 hg w13 hbox hb; have n0_ := Aside0.mk (blk_below (g := gb112) (o := .cells #[.int .i64 a0_0, .slice A0_1 l0_1.length c0_1, .slice A0_2 l0_2.length c0_2] 35 (0, 0)) (by (with_reducible repeat (first | refine blk_drewN ?_ _ | refine blk_drew ?_ | refine blk_alloc ?_ _)); exact BK112.out) hb); have n1_ := Aside0.mk (below_step (by repeat (first | (with_reducible first | exact HB.out | apply below_alloc | apply pw_below_drewN | apply below_drew1 | refine below_set ?_ GE112.out) | exact HB.out)) hb); have n2_ := Aside0.mk (hbox); have n3_ := Aside0.mk ((by rw [hg]; exact (below_size (by repeat (first | (with_reducible first | exact HB.out | apply below_alloc | apply pw_below_drewN | apply below_drew1 | refine below_set ?_ GE112.out) | exact HB.out))) : w.heap.size ≤ gb113)); have n4_ := Aside0.mk ((by rw [hg]; exact (below_size (by repeat (first | (with_reducible first | exact HB.out | apply below_alloc | apply pw_below_drewN | apply below_drew1 | refine below_set ?_ GE112.out) | exact HB.out))) : w.heap.size ≤ gb113)); have n5_ := Aside0.mk ((by rw [hg]; exact Nat.ne_of_lt (blk_lt (g := gb112) (o := .cells #[.int .i64 a0_0, .slice A0_1 l0_1.length c0_1, .slice A0_2 l0_2.length c0_2] 35 (0, 0)) (by (with_reducible repeat (first | refine blk_drewN ?_ _ | refine blk_drew ?_ | refine blk_alloc ?_ _)); exact BK112.out)) : gb112 ≠ gb113)); have n6_ := Aside0.mk ((by rw [hg]; exact Nat.ne_of_gt (blk_lt (g := gb112) (o := .cells #[.int .i64 a0_0, .slice A0_1 l0_1.length c0_1, .slice A0_2 l0_2.length c0_2] 35 (0, 0)) (by (with_reducible repeat (first | refine blk_drewN ?_ _ | refine blk_drew ?_ | refine blk_alloc ?_ _)); exact BK112.out)) : gb113 ≠ gb112)); clear BK112; clear HB; have BK112 := n0_; have HB := n1_; have BK113 := n2_; have GW113 := n3_; have GE113 := n4_; have NB112_113 := n5_; have NB113_112 := n6_; clear n0_ n1_ n2_ n3_ n4_ n5_ n6_; clear hb hbox hg; have hnb14 := NB112_113.out; have hnc14 := NB113_112.out; have hcz15_0 : w13.cell? ⟨gb112, 0, none⟩ = some (.int .i64 a0_0) := (blk_cell BK112.out 0).trans rfl; have hcz15_1 : w13.cell? ⟨gb112, 1, none⟩ = some (.slice A0_1 l0_1.length c0_1) := (blk_cell BK112.out 1).trans rfl; have hcz15_2 : w13.cell? ⟨gb112, 2, none⟩ = some (.slice A0_2 l0_2.length c0_2) := (blk_cell BK112.out 2).trans rfl; have hfz15_0 := blk_frozen BK112.out 0; have hfz15_1 := blk_frozen BK112.out 1; have hfz15_2 := blk_frozen BK112.out 2; have hcz16_0 : w13.cell? ⟨gb113, 0, none⟩ = some (.int .i64 a1_0) := (blk_cell BK113.out 0).trans rfl; have hcz16_1 : w13.cell? ⟨gb113, 1, none⟩ = some (.slice A1_1 l1_1.length c1_1) := (blk_cell BK113.out 1).trans rfl; have hcz16_2 : w13.cell? ⟨gb113, 2, none⟩ = some (.slice A1_2 l1_2.length c1_2) := (blk_cell BK113.out 2).trans rfl; have hfz16_0 := blk_frozen BK113.out 0; have hfz16_1 := blk_frozen BK113.out 1; have hfz16_2 := blk_frozen BK113.out 2) | (go_at_call 24; (with_reducible refine (planisphereref01_Same.calls k _ _ l0_1 _ _ l1_1 false _ ?side1 ?side2 ?side3 ?side4 A4.out).mono ?_); (case side1 => repeat (first | exact (Kd.C_below HR0_1.out HB.out) | (with_reducible refine Kd.C_alloc ?_ _) | (with_reducible refine Kd.C_drewN ?_ _) | (with_reducible refine Kd.C_drew ?_))); (case side2 => exact HC0_1.out); (case side3 => repeat (first | exact (Kd.C_below HR1_1.out HB.out) | (with_reducible refine Kd.C_alloc ?_ _) | (with_reducible refine Kd.C_drewN ?_ _) | (with_reducible refine Kd.C_drew ?_))); (case side4 => exact HC1_1.out); rintro e w' ⟨rfl, ⟨nd, rfl⟩⟩))
      go_ret
      exact ⟨by first | rfl | (simp [errW_none, errW_some] <;> rfl) | (simp [*, errW_none, errW_some] <;> rfl), by repeat (first | (with_reducible first | exact HB.out | apply below_alloc | apply pw_below_drewN | apply below_drew1 | refine below_set ?_ GE112.out | refine below_set ?_ GE113.out) | exact HB.out)⟩
  · rw [if_neg c3] at H
    have c3b0 : (a0_0 == a1_0) = false := beq_eq_false_iff_ne.mpr c3
    have c3b1 : (a0_0 != a1_0) = true := bne_iff_ne.mpr c3
    obtain rfl := Option.some.inj H
    go_enter Tryd.func32, Tryd.ntmps32
    go_wp2_with (first | ((with_reducible refine gate_dst (N := 2) rfl ?_); refine box_event ?hg (N := 2) ?hd (cs := #[.int .i64 a0_0, .slice A0_1 l0_1.length c0_1, .slice A0_2 l0_2.length c0_2]) (t := 35) ?hr ?_; (case hd => rfl); (case hg => rfl); (case hr => first | (go_simp; done) | (go_simp; rfl)); intro gb112 hg w17 hbox hb; have n0_ := Aside0.mk (below_step (by repeat (first | (with_reducible first | exact HB.out | apply below_alloc | apply pw_below_drewN | apply below_drew1) | exact HB.out)) hb); have n1_ := Aside0.mk (hbox); have n2_ := Aside0.mk ((by rw [hg]; exact (below_size (by repeat (first | (with_reducible first | exact HB.out | apply below_alloc | apply pw_below_drewN | apply below_drew1) | exact HB.out))) : w.heap.size ≤ gb112)); have n3_ := Aside0.mk ((by rw [hg]; exact (below_size (by repeat (first | (with_reducible first | exact HB.out | apply below_alloc | apply pw_below_drewN | apply below_drew1) | exact HB.out))) : w.heap.size ≤ gb112)); clear HB; have HB := n0_; have BK112 := n1_; have GW112 := n2_; have GE112 := n3_; clear n0_ n1_ n2_ n3_; clear hb hbox hg) | ((with_reducible refine gate_dst (N := 3) rfl ?_); refine box_event ?hg (N := 3) ?hd (cs := #[.int .i64 a1_0, .slice A1_1 l1_1.length c1_1, .slice A1_2 l1_2.length c1_2]) (t := 35) ?hr ?_; (case hd => rfl); (case hg => rfl); (case hr => first | (go_simp; done) | (go_simp; rfl)); intro gb113 hg w18 hbox hb; have n0_ := Aside0.mk (blk_below (g := gb112) (o := .cells #[.int .i64 a0_0, .slice A0_1 l0_1.length c0_1, .slice A0_2 l0_2.length c0_2] 35 (0, 0)) (by (with_reducible repeat (first | refine blk_drewN ?_ _ | refine blk_drew ?_ | refine blk_alloc ?_ _)); exact BK112.out) hb); have n1_ := Aside0.mk (below_step (by repeat (first | (with_reducible first | exact HB.out | apply below_alloc | apply pw_below_drewN | apply below_drew1 | refine below_set ?_ GE112.out) | exact HB.out)) hb); have n2_ := Aside0.mk (hbox); have n3_ := Aside0.mk ((by rw [hg]; exact (below_size (by repeat (first | (with_reducible first | exact HB.out | apply below_alloc | apply pw_below_drewN | apply below_drew1 | refine below_set ?_ GE112.out) | exact HB.out))) : w.heap.size ≤ gb113)); have n4_ := Aside0.mk ((by rw [hg]; exact (below_size (by repeat (first | (with_reducible first | exact HB.out | apply below_alloc | apply pw_below_drewN | apply below_drew1 | refine below_set ?_ GE112.out) | exact HB.out))) : w.heap.size ≤ gb113)); have n5_ := Aside0.mk ((by rw [hg]; exact Nat.ne_of_lt (blk_lt (g := gb112) (o := .cells #[.int .i64 a0_0, .slice A0_1 l0_1.length c0_1, .slice A0_2 l0_2.length c0_2] 35 (0, 0)) (by (with_reducible repeat (first | refine blk_drewN ?_ _ | refine blk_drew ?_ | refine blk_alloc ?_ _)); exact BK112.out)) : gb112 ≠ gb113)); have n6_ := Aside0.mk ((by rw [hg]; exact Nat.ne_of_gt (blk_lt (g := gb112) (o := .cells #[.int .i64 a0_0, .slice A0_1 l0_1.length c0_1, .slice A0_2 l0_2.length c0_2] 35 (0, 0)) (by (with_reducible repeat (first | refine blk_drewN ?_ _ | refine blk_drew ?_ | refine blk_alloc ?_ _)); exact BK112.out)) : gb113 ≠ gb112)); clear BK112; clear HB; have BK112 := n0_; have HB := n1_; have BK113 := n2_; have GW113 := n3_; have GE113 := n4_; have NB112_113 := n5_; have NB113_112 := n6_; clear n0_ n1_ n2_ n3_ n4_ n5_ n6_; clear hb hbox hg; have hnb19 := NB112_113.out; have hnc19 := NB113_112.out; have hcz20_0 : w18.cell? ⟨gb112, 0, none⟩ = some (.int .i64 a0_0) := (blk_cell BK112.out 0).trans rfl; have hcz20_1 : w18.cell? ⟨gb112, 1, none⟩ = some (.slice A0_1 l0_1.length c0_1) := (blk_cell BK112.out 1).trans rfl; have hcz20_2 : w18.cell? ⟨gb112, 2, none⟩ = some (.slice A0_2 l0_2.length c0_2) := (blk_cell BK112.out 2).trans rfl; have hfz20_0 := blk_frozen BK112.out 0; have hfz20_1 := blk_frozen BK112.out 1; have hfz20_2 := blk_frozen BK112.out 2; have hcz21_0 : w18.cell? ⟨gb113, 0, none⟩ = some (.int .i64 a1_0) := (blk_cell BK113.out 0).trans rfl; have hcz21_1 : w18.cell? ⟨gb113, 1, none⟩ = some (.slice A1_1 l1_1.length c1_1) := (blk_cell BK113.out 1).trans rfl; have hcz21_2 : w18.cell? ⟨gb113, 2, none⟩ = some (.slice A1_2 l1_2.length c1_2) := (blk_cell BK113.out 2).trans rfl; have hfz21_0 := blk_frozen BK113.out 0; have hfz21_1 := blk_frozen BK113.out 1; have hfz21_2 := blk_frozen BK113.out 2))
    go_ret
    exact ⟨by first | rfl | (simp [errW_none, errW_some] <;> rfl) | (simp [*, errW_none, errW_some] <;> rfl), by repeat (first | (with_reducible first | exact HB.out | apply below_alloc | apply pw_below_drewN | apply below_drew1 | refine below_set ?_ GE112.out | refine below_set ?_ GE113.out) | exact HB.out)⟩
end Go.Proofs.YteleheamnighkaaDoor.PBase
end
section
set_option linter.unusedVariables false
set_option linter.unusedSimpArgs false
namespace Go.Proofs.YteleheamnighkaaDoor
open Go.RowKit Go.Proofs.YteleheamnighkaaDoorW.PrintWords
namespace BaseFacts
theorem w64 (n : Nat) (h : n ≤ 140737488355328) : wrap64 ((n : Int) + 1) = ((n + 1 : Nat) : Int) := by unfold wrap64; omega
theorem w63 (n : Nat) (h : n < 9223372036854775807) : wrap64 ((n : Int) + 1) = ((n + 1 : Nat) : Int) := by unfold wrap64; omega
theorem rdOf_at (l : List ByteArray) (i : Nat) (h : i < l.length) : rdOf ByteArray.empty l (i : Int) = l[i] := by simp [rdOf, List.getD, h]
theorem all_take_succ {α : Type} (p : α → Bool) (l : List α) (i : Nat) (h : i < l.length) (ht : (l.take i).all p = true) (hp : p l[i] = true) : (l.take (i + 1)).all p = true := by
  rw [List.take_succ_eq_append_getElem h, List.all_append, ht]; simp [hp]
theorem all_no {α : Type} (p : α → Bool) (l : List α) (i : Nat) (h : i < l.length) (hp : p l[i] = false) : l.all p = false := by
  rw [List.all_eq_false]
  exact ⟨l[i], List.getElem_mem h, by simp [hp]⟩
def shortT (l : List ByteArray) : Bool := l.all (fun s => decide (s.size ≤ 300))
theorem short_l0 (l : List ByteArray) (hl : l.length ≤ 9223372036854775807) : ∀ (d i k : Nat), i + d = l.length → d < k → (l.take i).all (fun s => decide (s.size ≤ 300)) = true →
    PBase.planispherelaw02_short.l0 k l i = some (shortT l) := by
  intro d
  induction d with
  | zero =>
    intro i k hi hk ht
    obtain ⟨k, rfl⟩ : ∃ n, k = n + 1 := ⟨k - 1, by omega⟩
    simp only [PBase.planispherelaw02_short.l0]
    rw [if_neg (by omega)]
    rw [List.take_of_length_le (by omega)] at ht
    unfold shortT; rw [ht]
  | succ d ih =>
    intro i k hi hk ht
    obtain ⟨k, rfl⟩ : ∃ n, k = n + 1 := ⟨k - 1, by omega⟩
    have hlt : i < l.length := by omega
    simp only [PBase.planispherelaw02_short.l0]
    rw [if_pos (by omega), if_pos (by omega), rdOf_at l i hlt]
    by_cases hs : ((l[i]).size : Int) > 300
    · rw [if_pos hs]
      unfold shortT
      rw [all_no (fun s => decide (s.size ≤ 300)) l i hlt (by simp; omega)]
    · rw [if_neg hs, w63 i (by omega)]
      exact ih (i + 1) k (by omega) (by omega) (all_take_succ _ l i hlt ht (by simp; omega))
theorem short_f (l : List ByteArray) (hl : l.length ≤ 9223372036854775807) : PBase.planispherelaw02_short.f (l.length + 1) l = some (shortT l) :=
  short_l0 l hl l.length 0 _ (by omega) (by omega) rfl
theorem same_l0 (l m : List ByteArray) (hl : l.length ≤ 9223372036854775807) (hlm : l.length = m.length) : ∀ (d i k : Nat), i + d = l.length → d < k → l.take i = m.take i →
    PBase.planisphereref01_Same.l0 k l m i = some (decide (l = m)) := by
  intro d
  induction d with
  | zero =>
    intro i k hi hk ht
    obtain ⟨k, rfl⟩ : ∃ n, k = n + 1 := ⟨k - 1, by omega⟩
    simp only [PBase.planisphereref01_Same.l0]
    rw [if_neg (by omega)]
    rw [List.take_of_length_le (by omega), List.take_of_length_le (by omega)] at ht
    rw [ht]; simp
  | succ d ih =>
    intro i k hi hk ht
    obtain ⟨k, rfl⟩ : ∃ n, k = n + 1 := ⟨k - 1, by omega⟩
    have h1 : i < l.length := by omega
    have h2 : i < m.length := by omega
    simp only [PBase.planisphereref01_Same.l0]
    rw [if_pos (by omega), if_pos (by omega), if_pos (by omega), rdOf_at l i h1, rdOf_at m i h2]
    by_cases hs : (l[i]).toList = (m[i]).toList
    · rw [if_pos hs, w63 i (by omega)]
      have he : l[i] = m[i] := tx_inj (by show (l[i]).data.toList = (m[i]).data.toList; rw [← ByteArray.toList_eq, ← ByteArray.toList_eq]; exact hs)
      exact ih (i + 1) k (by omega) (by omega) (by rw [List.take_succ_eq_append_getElem h1, List.take_succ_eq_append_getElem h2, ht, he])
    · rw [if_neg hs]
      have : l ≠ m := by rintro rfl; exact hs rfl
      simp [this]
theorem same_f (l m : List ByteArray) (hl : l.length ≤ 9223372036854775807) : PBase.planisphereref01_Same.f (l.length + 1) l m = some (decide (l = m)) := by
  unfold PBase.planisphereref01_Same.f
  by_cases h : l.length = m.length
  · rw [if_pos (by omega)]; exact same_l0 l m hl h l.length 0 _ (by omega) (by omega) rfl
  · rw [if_neg (by omega)]
    have : l ≠ m := by rintro rfl; exact h rfl
    simp [this]
theorem power_l0 (n : Nat) (hn : n ≤ 62) : ∀ (d i k : Nat), i + d = n → d < k → PBase.planisphereref02_Power.l0 k n ((2 ^ i : Nat) : Int) i = some ((2 ^ n : Nat) : Int) := by
  intro d
  induction d with
  | zero =>
    intro i k hi hk
    obtain ⟨k, rfl⟩ : ∃ n, k = n + 1 := ⟨k - 1, by omega⟩
    simp only [PBase.planisphereref02_Power.l0]
    rw [if_neg (by omega)]
    rw [show i = n by omega]
  | succ d ih =>
    intro i k hi hk
    obtain ⟨k, rfl⟩ : ∃ n, k = n + 1 := ⟨k - 1, by omega⟩
    have hp : 2 ^ (i + 1) ≤ 2 ^ 62 := Nat.pow_le_pow_right (by decide) (by omega)
    have he : wrap64 (2 * ((2 ^ i : Nat) : Int)) = ((2 ^ (i + 1) : Nat) : Int) := by
      rw [Nat.pow_succ] at hp ⊢
      generalize 2 ^ i = x at *
      unfold wrap64; omega
    simp only [PBase.planisphereref02_Power.l0]
    rw [if_pos (by omega), he, w63 i (by omega)]
    exact ih (i + 1) k (by omega) (by omega)
theorem power_f (n : Nat) (hn : n ≤ 62) : PBase.planisphereref02_Power.f (n + 1) n = some ((2 ^ n : Nat) : Int) := power_l0 n hn n 0 _ (by omega) (by omega)
def fewS (s p : List ByteArray) : Bool := (s.take 30).all (fun x => decide (x.size ≤ 100)) && ((p.take 30).all (fun x => decide (x.size ≤ 100)) && (decide (s.length ≤ 30) && decide (p.length ≤ 30)))
end BaseFacts
end Go.Proofs.YteleheamnighkaaDoor
end
section
set_option linter.unusedVariables false
set_option linter.unusedSimpArgs false
namespace Go.Proofs.YteleheamnighkaaDoor
open Go.RowKit Go.Proofs.YteleheamnighkaaDoorW.PrintWords
namespace BaseFacts
def decB : ByteArray := ⟨#[48, 49, 50, 51, 52, 53, 54, 55, 56, 57]⟩
theorem decB_at : ∀ t : Fin 10, decB.extract t.val (t.val + 1) = ofT [UInt8.ofNat (48 + t.val)] := by decide +kernel
theorem decB_cut (t : Nat) (h : t < 10) : decB.extract t (t + 1) = ofT [UInt8.ofNat (48 + t)] := decB_at ⟨t, h⟩
def decs (u : Nat) : List UInt8 := if u = 0 then [] else Lib.decDigits u
theorem decs_step (u : Nat) (h : 0 < u) : decs u = decs (u / 10) ++ [UInt8.ofNat (48 + u % 10)] := by
  unfold decs
  rw [if_neg (by omega), Lib.decDigits]
  by_cases h10 : u < 10
  · rw [dif_pos h10, if_pos (by omega), Nat.mod_eq_of_lt h10]; rfl
  · rw [dif_neg h10, if_neg (by omega)]
theorem dec_step (u : Nat) : Lib.decDigits u = decs (u / 10) ++ [UInt8.ofNat (48 + u % 10)] := by
  rw [Lib.decDigits]
  unfold decs
  by_cases h10 : u < 10
  · rw [dif_pos h10, if_pos (by omega), Nat.mod_eq_of_lt h10]; rfl
  · rw [dif_neg h10, if_neg (by omega)]
theorem digits_l0 : ∀ (b u : Nat) (t : List UInt8) (k : Nat), u < 10 ^ b → u < 18446744073709551616 → t.length + b ≤ 100 → b < k →
    PBase.planisphereref01_digits.l0 k u (ofT t) = some (ofT (decs u ++ t)) := by
  intro b
  induction b with
  | zero =>
    intro u t k hu h64 ht hk
    obtain ⟨k, rfl⟩ : ∃ n, k = n + 1 := ⟨k - 1, by omega⟩
    obtain rfl : u = 0 := by simpa using hu
    simp only [PBase.planisphereref01_digits.l0]
    rw [if_neg (by omega)]; rfl
  | succ b ih =>
    intro u t k hu h64 ht hk
    obtain ⟨k, rfl⟩ : ∃ n, k = n + 1 := ⟨k - 1, by omega⟩
    simp only [PBase.planisphereref01_digits.l0]
    by_cases h0 : u = 0
    · subst h0
      rw [if_neg (by omega)]; rfl
    · have ihh := ih (u / 10) (UInt8.ofNat (48 + u % 10) :: t) k (by rw [Nat.pow_succ] at hu; omega) (by omega) (by rw [List.length_cons]; omega) (by omega)
      have hm : u % 10 < 10 := Nat.mod_lt _ (by omega)
      have hst := decs_step u (by omega)
      have e6 : (⟨#[48, 49, 50, 51, 52, 53, 54, 55, 56, 57]⟩ : ByteArray).extract (u % 10) (u % 10 + 1) = ofT [UInt8.ofNat (48 + u % 10)] := decB_cut _ hm
      have hsz : (ofT [UInt8.ofNat (48 + u % 10)]).size + (ofT t).size ≤ 9223372036854775807 := by
        rw [size_ofT, size_ofT, List.length_singleton]; omega
      have e1 : Int.tmod (u : Int) 10 = ((u % 10 : Nat) : Int) := by rw [show (10 : Int) = ((10 : Nat) : Int) from rfl, tmod_nat]
      have e2 : Int.tdiv (u : Int) 10 = ((u / 10 : Nat) : Int) := by rw [show (10 : Int) = ((10 : Nat) : Int) from rfl, tdiv_nat]
      have e3 : IntKind.u64.wrap (((u % 10 : Nat) : Int) + 1) = ((u % 10 + 1 : Nat) : Int) := by rw [wu _ (by omega) (by omega)]; omega
      have e4 : IntKind.u64.wrap ((u / 10 : Nat) : Int) = ((u / 10 : Nat) : Int) := wu _ (by omega) (by omega)
      rw [e1, e2, e3, e4]
      clear e1 e2 e3 e4
      rw [if_pos (by omega), if_pos (by omega), if_pos (by omega), if_pos (by omega)]
      simp only [Int.toNat_natCast]
      rw [e6, if_pos hsz, ofT_append, hst, List.append_assoc]
      exact ihh
theorem decimal_f (u : Nat) (hu : u ≤ 9223372036854775807) : PBase.planisphereref01_Decimal.f 30 u = some (ofT (Lib.decDigits u)) := by
  have hm : u % 10 < 10 := Nat.mod_lt _ (by omega)
  have e6 : (⟨#[48, 49, 50, 51, 52, 53, 54, 55, 56, 57]⟩ : ByteArray).extract (u % 10) (u % 10 + 1) = ofT [UInt8.ofNat (48 + u % 10)] := decB_cut _ hm
  have hl := digits_l0 20 (u / 10) [UInt8.ofNat (48 + u % 10)] 30 (by omega) (by omega) (by simp) (by omega)
  have hd : PBase.planisphereref01_digits.f 30 u = some (ofT (Lib.decDigits u)) := by
    have e1 : Int.tmod (u : Int) 10 = ((u % 10 : Nat) : Int) := by rw [show (10 : Int) = ((10 : Nat) : Int) from rfl, tmod_nat]
    have e2 : Int.tdiv (u : Int) 10 = ((u / 10 : Nat) : Int) := by rw [show (10 : Int) = ((10 : Nat) : Int) from rfl, tdiv_nat]
    have e3 : IntKind.u64.wrap (((u % 10 : Nat) : Int) + 1) = ((u % 10 + 1 : Nat) : Int) := by rw [wu _ (by omega) (by omega)]; omega
    have e4 : IntKind.u64.wrap ((u / 10 : Nat) : Int) = ((u / 10 : Nat) : Int) := wu _ (by omega) (by omega)
    unfold PBase.planisphereref01_digits.f
    rw [e1, e2, e3, e4]
    clear e1 e2 e3 e4
    rw [if_pos (by omega), if_pos (by omega), if_pos (by omega)]
    simp only [Int.toNat_natCast]
    rw [e6, dec_step]
    exact hl
  have e0 : IntKind.u64.wrap (u : Int) = (u : Int) := wu _ (by omega) (by omega)
  unfold PBase.planisphereref01_Decimal.f
  rw [e0]
  clear e0
  rw [if_neg (by omega), hd]; rfl
theorem digit_f (c : Nat) (hc : c < 256) : ∃ v : Int, (∀ k, PBase.planisphereref01_Digit.f (k + 1) c = some v) ∧ (v < 0 ↔ ¬ (48 ≤ c ∧ c ≤ 57 ∨ 97 ≤ c ∧ c ≤ 102)) := by
  by_cases h1 : 48 ≤ c ∧ c ≤ 57
  · refine ⟨((c : Int) - 48) % 256, fun k => ?_, by omega⟩
    simp only [PBase.planisphereref01_Digit.f, PBase.planisphereref01_Digit.j0]
    rw [if_pos (by omega), decide_eq_true (by omega), if_pos rfl]
  · by_cases h2 : 97 ≤ c ∧ c ≤ 102
    · refine ⟨((c : Int) - 97) % 256 + 10, fun k => ?_, by omega⟩
      simp only [PBase.planisphereref01_Digit.f, PBase.planisphereref01_Digit.j0]
      rw [if_pos (by omega), decide_eq_false (by omega), if_neg (by simp), if_pos (by omega), if_pos (by omega)]
    · refine ⟨-1, fun k => ?_, by omega⟩
      simp only [PBase.planisphereref01_Digit.f, PBase.planisphereref01_Digit.j0]
      by_cases h3 : 48 ≤ c
      · rw [if_pos (by omega), decide_eq_false (by omega), if_neg (by simp)]
        by_cases h4 : 97 ≤ c
        · rw [if_pos (by omega), if_neg (by omega)]
        · rw [if_neg (by omega)]
      · rw [if_neg (by omega), if_neg (by simp), if_neg (by omega)]
theorem isHex_iff (c : UInt8) : Dig.isHex c = true ↔ (48 ≤ c.toNat ∧ c.toNat ≤ 57 ∨ 97 ≤ c.toNat ∧ c.toNat ≤ 102) := by
  have : ∀ c : Fin 256, Dig.isHex (UInt8.ofNat c.val) = true ↔ (48 ≤ c.val ∧ c.val ≤ 57 ∨ 97 ≤ c.val ∧ c.val ≤ 102) := by decide +kernel
  have h := this ⟨c.toNat, c.toNat_lt⟩
  simpa using h
theorem is_l0 (s : ByteArray) (hs : s.size ≤ 140737488355328) : ∀ (d i k : Nat), i + d = min s.size 16 → 3 * d + 4 < k → ((tx s).take i).all Dig.isHex = true →
    PBase.planisphereref01_Is.l0 k s i = some (Dig.isD (tx s)) := by
  intro d
  have fin : ∀ (i k : Nat), i = min s.size 16 → 3 < k → ((tx s).take i).all Dig.isHex = true → PBase.planisphereref01_Is.l0 k s i = some (Dig.isD (tx s)) := by
    intro i k hi hk ht
    obtain ⟨k, rfl⟩ : ∃ n, k = n + 2 := ⟨k - 2, by omega⟩
    have hj : PBase.planisphereref01_Is.j1 (k + 1) s i false = some (Dig.isD (tx s)) := by
      simp only [PBase.planisphereref01_Is.j1]
      rw [if_neg (by simp)]
      unfold Dig.isD
      congr 1
      by_cases h16 : s.size = 16
      · rw [List.take_of_length_le (by rw [tx_len]; omega)] at ht
        rw [ht, tx_len, h16]; rfl
      · rw [tx_len, show (s.size == 16) = false by simpa using h16, Bool.false_and]
        simp; omega
    simp only [PBase.planisphereref01_Is.l0]
    by_cases hlt : (i : Int) < s.size
    · rw [if_pos hlt, decide_eq_false (by omega)]; exact hj
    · rw [if_neg hlt]; exact hj
  induction d with
  | zero => intro i k hi hk ht; exact fin i k (by omega) (by omega) ht
  | succ d ih =>
    intro i k hi hk ht
    obtain ⟨k, rfl⟩ : ∃ n, k = n + 3 := ⟨k - 3, by omega⟩
    have hlt : i < s.size := by omega
    have hlt' : i < (tx s).length := by rw [tx_len]; exact hlt
    simp only [PBase.planisphereref01_Is.l0, PBase.planisphereref01_Is.j1]
    rw [if_pos (by omega), decide_eq_true (by omega), if_pos rfl, if_pos (by omega), if_pos (by omega), bt_tx s i hlt]
    have hg : (tx s).getD i 0 = (tx s)[i] := by rw [List.getD, List.getElem?_eq_getElem hlt']; rfl
    rw [hg]
    obtain ⟨v, hv, hneg⟩ := digit_f ((tx s)[i]).toNat (UInt8.toNat_lt _)
    rw [hv (k)]
    simp only [Option.bind_some]
    rw [← isHex_iff] at hneg
    by_cases hx : v < 0
    · rw [if_pos hx]
      have h1 := hneg.1 hx
      have : (tx s).all Dig.isHex = false := all_no _ _ i hlt' (by simpa using h1)
      unfold Dig.isD; rw [this, Bool.and_false]
    · rw [if_neg hx, w64 i (by omega)]
      have hc : Dig.isHex (tx s)[i] = true := by
        cases hc : Dig.isHex (tx s)[i] with
        | true => rfl
        | false => exact absurd (hneg.2 (by rw [hc]; simp)) hx
      have := ih (i + 1) (k + 1) (by omega) (by omega) (all_take_succ _ (tx s) i hlt' ht hc)
      simp only [PBase.planisphereref01_Is.l0] at this
      exact this
theorem is_f (s : ByteArray) (hs : s.size ≤ 140737488355328) : PBase.planisphereref01_Is.f 100 s = some (Dig.isD (tx s)) :=
  is_l0 s hs (min s.size 16) 0 100 (by omega) (by omega) rfl
end BaseFacts
end Go.Proofs.YteleheamnighkaaDoor
end
section
set_option linter.unusedVariables false
set_option linter.unusedSimpArgs false
namespace Go.Proofs.YteleheamnighkaaDoor
open Go.RowKit Go.DoorKit Go.Proofs.YteleheamnighkaaDoorW.PrintWords Go.Proofs.YteleheamnighkaaDoorW.PrintMore
theorem dec_any (n : Int) (h0 : 0 ≤ n) (h1 : n ≤ 9223372036854775807) (w : World) :
    Calls Tryd.prog 47 #[.int .i64 n] w fun e w' => (∃ t : ByteArray, e = .returned (.string t) ∧ Hid (tx t = Lib.decDigits n.toNat)) ∧ Below w.heap.size w w' := by
  obtain ⟨u, rfl⟩ := Int.eq_ofNat_of_zero_le h0
  refine (PBase.planisphereref01_Decimal.calls 30 u _ w (BaseFacts.decimal_f u (by omega))).mono ?_
  rintro e w' ⟨rfl, hd⟩
  exact ⟨⟨_, rfl, Lib.hid rfl⟩, hd.below⟩
theorem need_take (l : List ByteArray) (i : Nat) (s : ByteArray) (h : l[i]? = some s) : need (l.take (i + 1)) = need (l.take i) + (s.size + 21) := by
  unfold need
  rw [List.take_add_one, h, Option.toList_some, List.map_append, List.sum_append]
  simp
theorem need_le (l : List ByteArray) (i : Nat) : need (l.take i) ≤ need l := by
  have h : need l = need (l.take i) + need (l.drop i) := by
    unfold need; rw [← List.sum_append, ← List.map_append, List.take_append_drop]
  omega
theorem need_len : ∀ l : List ByteArray, l.length ≤ need l
  | [] => Nat.zero_le _
  | s :: l => by
    have := need_len l
    have e : need (s :: l) = s.size + 21 + need l := rfl
    rw [e, List.length_cons]; omega
def bl (t : List UInt8) : List Int := t.map fun c => (c.toNat : Int)
theorem bl_len (t : List UInt8) : (bl t).length = t.length := by simp [bl]
theorem bl_append (a b : List UInt8) : bl a ++ bl b = bl (a ++ b) := by simp [bl]
theorem strOf_bl (t : List UInt8) : strOfNums (bl t) = ofT t := strOf_l t
def Row (W : World) (b : Nat) (v : Value) (t : List UInt8) : Prop := W.ownsRow b 5 1 v (bl t).length (nums .u8 (bl t))
theorem infoB : (Tryd.prog.info? 5).map (fun i => (i.zero, i.size, i.bytes)) = some (some (.int .u8 0), 1, 1) := by kernel_rfl
theorem make_row (w : World) (n : Nat) (hn : n ≤ 140737488355328) : ∃ w1, (Instr.makeSlice 56 (.int .i64 0) (.int .i64 (n : Int))).run Tryd.prog w = .ok (.slice (some ⟨w.heap.size, 0, none⟩) 0 n) w1 ∧ Row w1 w.heap.size (.slice (some ⟨w.heap.size, 0, none⟩) 0 n) [] ∧ Below w.heap.size w w1 := by
  obtain ⟨i, hi, hz⟩ := Option.map_eq_some_iff.1 infoB
  simp only [Prod.mk.injEq] at hz
  obtain ⟨hz0, hz1, hz2⟩ := hz
  obtain ⟨w1, h1, h2, h3⟩ := run_make_own (P := Tryd.prog) w w.heap.size 56 5 i _ 1 Tryd.underlying56 hi hz0 hz1 .i64 .i64 n (by rw [hz2]; omega) (by unfold maxLen; omega) (Nat.le_refl _)
  exact ⟨w1, h1, h2, (Below.refl _ _).grown h3 (Nat.le_refl _) (fun k e => by cases e)⟩
theorem colon_step {w w3 w4 : World} {v3 v4 : Value} {T : List UInt8} {ad : Addr} {l : List ByteArray} {i : Nat} {s : ByteArray} (hi : i < l.length)
    (HRow3 : w3.ownsRow w.heap.size 5 1 v3 (bl T).length (nums .u8 (bl T))) (HB3 : Below w.heap.size w w3)
    (ho4 : w4.ownsRow w.heap.size 5 1 v4 ((bl T).length + 1) (nums .u8 (bl T) ++ [Value.int .u8 58])) (hg4 : (w3.alloc (.cells #[.int .u8 58] 5)).grownBy w4 v3.ownBlock)
    (HR : Kd.C Kd.string w (some ad) l.length l) (hrd : rdOf ByteArray.empty l (i : Int) = s) :
    Hid (w4.ownsRow w.heap.size 5 1 v4 (bl (T ++ [58])).length (nums .u8 (bl (T ++ [58])))) ∧ Hid (Below w.heap.size w w4) ∧ w4.cell? (ad.add i) = some (.string s) := by
  have HB4 : Below w.heap.size w w4 := (HB3.alloc HB3.size _).grown hg4 (Nat.le_trans HB3.size (by simp)) (fun k hk => own_base HRow3 k hk)
  refine ⟨Lib.hid ?_, Lib.hid HB4, ?_⟩
  · have e1 : (bl T).length + 1 = (bl (T ++ [58])).length := by rw [bl_len, bl_len]; simp
    have e2 : nums .u8 (bl T) ++ [Value.int .u8 58] = nums .u8 (bl (T ++ [58])) := by rw [← bl_append, nums_append]; rfl
    rw [e1, e2] at ho4; exact ho4
  · obtain ⟨ad4, hA4, hcell4⟩ := Kd.at_string (Kd.C_below HR HB4) (i : Int) (by omega) (by omega)
    rw [hrd, Int.toNat_natCast] at hcell4
    obtain rfl := Option.some.inj hA4
    exact hcell4
theorem last_step {w w5 : World} {v5 : Value} {J : List UInt8} {t s : ByteArray} (ht : tx t = Lib.decDigits ((s.size : Nat) : Int).toNat)
    (ho5 : w5.ownsRow w.heap.size 5 1 v5 (bl (J ++ tx t ++ [58]) ++ bytesOf s).length (nums .u8 (bl (J ++ tx t ++ [58]) ++ bytesOf s))) : Hid (Row w5 w.heap.size v5 (J ++ Dig.piece (tx s))) := Lib.hid (by
  have e : bl (J ++ tx t ++ [58]) ++ bytesOf s = bl (J ++ Dig.piece (tx s)) := by
    show bl _ ++ bl (tx s) = _
    rw [bl_append]; congr 1
    unfold Dig.piece
    rw [ht, Int.toNat_natCast, tx_len]; simp
  rw [e] at ho5; exact ho5)
set_option maxRecDepth 100000 in
set_option maxHeartbeats 400000 in
theorem joined_calls (A : Option Addr) (c : Nat) (l : List ByteArray) (w : World) (hr : Kd.C Kd.string w A l.length l) (hc : l.length ≤ c) (hj : Big (need l)) :
    Calls Tryd.prog 23 #[.slice A l.length c] w fun e w' => e = .returned (.string (ofT (Dig.joined (l.map tx)))) ∧ Below w.heap.size w w' := by
  have hl : l.length ≤ 140737488355328 := Nat.le_trans (need_len l) hj.out
  have HR := Lib.hid hr
  have HJ := Lib.hid hj
  clear hr hj
  go_enter Tryd.func23, Tryd.ntmps23
  go_wp2_with fail
  go_loop [3, 4] (fun v3 v4 => ∃ i : Nat, i ≤ l.length ∧ v3 = .int .i64 (need (l.take i) : Nat) ∧ v4 = .int .i64 i) (fun _ v4 => l.length - (intOf v4).toNat)
  case atStart => exact ⟨0, Nat.zero_le _, rfl, rfl⟩
  case round =>
    obtain ⟨i, hi, rfl, rfl⟩ := hrel
    by_cases hlt : i < l.length
    · obtain ⟨ad, hA, hcell⟩ := Kd.at_string HR.out (i : Int) (by omega) (by omega)
      obtain ⟨s, hs⟩ : ∃ s, l[i]? = some s := ⟨_, List.getElem?_eq_getElem hlt⟩
      have hrd : rdOf ByteArray.empty l (i : Int) = s := by simp [rdOf, List.getD, hs]
      rw [hrd, Int.toNat_natCast] at hcell
      subst hA
      have hn := need_take l i s hs
      have hle := need_le l (i + 1)
      have hb := HJ.out.out
      have hx : need (l.take i) + (s.size + 21) ≤ 140737488355328 := by omega
      have HN := Lib.hid hn
      clear hn hle hb hs hrd
      generalize need (l.take i) = m at *
      go_wp2
      go_round
      case rel => exact ⟨i + 1, by omega, by rw [HN.out]; go_num, by go_num⟩
      case measure => simp [intOf]; omega
    · obtain rfl : i = l.length := by omega
      rw [List.take_of_length_le (Nat.le_refl _)]
      have hb := HJ.out.out
      obtain ⟨w1, hmk, hrow, hB1⟩ := make_row w (need l) hb
      go_wp2_with fail
      clear hmk
      have HR1 := Lib.hid hrow
      clear hrow
      go_loopw [5, 6] (fun v5 v6 wr => ∃ i : Nat, i ≤ l.length ∧ v6 = .int .i64 i ∧ Row wr w.heap.size v5 (Dig.joined ((l.map tx).take i)) ∧ Below w.heap.size w wr) (fun _ v6 _ => l.length - (intOf v6).toNat)
      case atStart => exact ⟨0, Nat.zero_le _, rfl, HR1.out, hB1⟩
      case round =>
        obtain ⟨i, hi, rfl, hrow, hB⟩ := hrel
        by_cases hlt : i < l.length
        · obtain ⟨ad, hA, hcell⟩ := Kd.at_string (Kd.C_below HR.out hB) (i : Int) (by omega) (by omega)
          obtain ⟨s, hs⟩ : ∃ s, l[i]? = some s := ⟨_, List.getElem?_eq_getElem hlt⟩
          have hrd : rdOf ByteArray.empty l (i : Int) = s := by simp [rdOf, List.getD, hs]
          rw [hrd, Int.toNat_natCast] at hcell
          subst hA
          have hst : (l.map tx)[i]? = some (tx s) := by rw [List.getElem?_map, hs]; rfl
          have hT := joined_take _ _ _ hst
          have hnt := need_take l i s hs
          have hnl := need_le l (i + 1)
          have hjn := joined_need (l.take i) (show need (l.take i) ≤ _ by omega)
          rw [List.map_take] at hjn
          have hss : s.size ≤ 140737488355328 := by omega
          have hsm : (s.size : Int) ≤ 9223372036854775807 := by omega
          have hlim : (Dig.joined ((l.map tx).take i)).length + (s.size + 21) ≤ 140737488355328 := by omega
          have HL := Lib.hid hlim
          have HT := Lib.hid hT
          clear hnt hnl hjn hlim hT hst hs
          generalize Dig.joined ((l.map tx).take i) = J at *
          have HB := Lib.hid hB
          have HRow := Lib.hid hrow
          have Hrd := Lib.hid hrd
          clear hrow hB hrd
          obtain ⟨ib, hib, hzz⟩ := Option.map_eq_some_iff.1 infoB
          simp only [Prod.mk.injEq] at hzz
          obtain ⟨hz0, hz1, hz2⟩ := hzz
          have HI := Lib.hid (And.intro hib (And.intro hz0 (And.intro hz1 hz2)))
          clear hib hz0 hz1 hz2
          go_wp2_with (first
            | (go_at_call 47; refine (dec_any (s.size : Int) (by omega) hsm wr).mono ?_; rintro e w2 ⟨⟨t, rfl, ht⟩, hb2⟩
               have htl : (tx t).length + 1 + s.size = (Dig.piece (tx s)).length := by rw [Dig.piece_len, ← Lib.decDigits_length, ht.out, tx_len, Int.toNat_natCast]
               have htn : (tx t).length ≤ 20 := by rw [ht.out, Int.toNat_natCast, Lib.decDigits_length]; exact Dig.nDigits_le (by omega) (by omega)
               have HRow2 := Lib.hid (pw_own_below HRow.out hb2)
               have HB2 := Lib.hid (HB.out.trans (hb2.mono HB.out.size))
               have HX1 := Lib.hid (show (bl J).length + t.size ≤ 140737488355328 by rw [bl_len, ← tx_len t]; have := HL.out; omega)
               have HX3 := Lib.hid (show (bl (J ++ tx t)).length + 1 ≤ 140737488355328 by rw [bl_len, List.length_append]; have := HL.out; omega)
               have HX4 := Lib.hid (show (bl (J ++ tx t ++ [58])).length + s.size ≤ 140737488355328 by rw [bl_len, List.length_append, List.length_append]; have := HL.out; simp only [List.length_singleton]; omega)
               clear hb2 htl htn)
            | ((with_reducible refine gate_builtin (b := .append) (xs := #[.tmp 29, .tmp 35]) rfl ?_); at_builtin; refine print_append_str (w0 := w) w.heap.size rfl (.tmp 29) (.tmp 35) 56 9 5 rfl Tryd.underlying56 Tryd.underlying9 infoB u5 (bl J) t rfl rfl HRow2.out HB2.out HB2.out.size HX1.out ?_; intro v3 w3 ho3 hb3 hg3
               have hbt : bl J ++ bytesOf t = bl (J ++ tx t) := bl_append _ _
               rw [hbt] at ho3
               have HRow3 := Lib.hid ho3
               have HB3 := Lib.hid hb3
               clear ho3 hb3 hg3 hbt)
            | ((with_reducible refine gate_builtin (b := .append) (xs := #[.tmp 37, .tmp 38]) rfl ?_); at_builtin; refine wpList_append_own _ rfl (.tmp 37) (.tmp 38) 56 rfl w.heap.size 5 ib (.int .u8 0) 1 1 Tryd.underlying56 HI.out.1 HI.out.2.1 HI.out.2.2.1 HI.out.2.2.2 rfl (by decide) v3 _ _ rfl (HRow3.out.alloc _) ⟨w3.heap.size, 0, none⟩ 1 1 [.int .u8 58] rfl rfl (cell_one_new _ _ _) (by simp [Value.oneCell']) (Nat.le_trans HX3.out (by unfold maxLen; omega)) (by rw [Nat.mul_one]; exact HX3.out) (Nat.le_trans HB3.out.size (by simp)) ?_; intro v4 w4 ho4 hg4 hn4; obtain ⟨HRow4, HB4, hcell4⟩ := colon_step hlt HRow3.out HB3.out ho4 hg4 HR.out Hrd.out; clear ho4 hg4 hn4)
            | ((with_reducible refine gate_builtin (b := .append) (xs := #[.tmp 40, .tmp 44]) rfl ?_); at_builtin; refine print_append_str (w0 := w) w.heap.size rfl (.tmp 40) (.tmp 44) 56 9 5 rfl Tryd.underlying56 Tryd.underlying9 infoB v4 (bl (J ++ tx t ++ [58])) s rfl rfl HRow4.out HB4.out HB4.out.size HX4.out ?_; intro v5 w5 ho5 hb5 hg5; have HRow5 := last_step ht.out ho5; have HB5 := Lib.hid hb5; clear ho5 hb5 hg5))
          go_roundw
          case rel => exact ⟨i + 1, by omega, by go_num, by rw [HT.out]; exact HRow5.out, HB5.out⟩
          case measure => simp [intOf]; omega
        · obtain rfl : i = l.length := by omega
          rw [List.take_of_length_le (by simp)] at hrow
          have hcv := own_string (P := Tryd.prog) (src := 56) (dst := 9) (e := 5) Tryd.underlying56 Tryd.underlying5 Tryd.underlying9 hrow
          rw [strOf_bl] at hcv
          clear hrow
          go_wp2_with fail
          go_ret
          exact ⟨rfl, hB⟩
end Go.Proofs.YteleheamnighkaaDoor
end
section
set_option linter.unusedVariables false
set_option linter.unusedSimpArgs false
namespace Go.Proofs.YteleheamnighkaaDoor
open Go.RowKit Go.DoorKit Go.Proofs.YteleheamnighkaaDoorW.PrintWords
def Len63 (n : Nat) : Prop := n ≤ 9223372036854775807
instance (n : Nat) : Decidable (Len63 n) := inferInstanceAs (Decidable (n ≤ 9223372036854775807))
theorem Len63.out {n : Nat} (h : Len63 n) : n ≤ 9223372036854775807 := h
theorem if_out {α : Type} {c : Prop} [Decidable c] {x r : α} (h : (if c then some x else none) = some r) : c ∧ x = r := by
  split at h
  · exact ⟨‹_›, Option.some.inj h⟩
  · cases h
def planisphereref01_Sum.f (a0 : ByteArray) : Option ByteArray := if Big a0.size then some (ofT (Dig.sum (tx a0))) else none
theorem planisphereref01_Sum.calls (a0 : ByteArray) (r : ByteArray) (w : World) (h : planisphereref01_Sum.f a0 = some r) :
    Calls Tryd.prog 18 #[.string a0] w fun e w' => e = .returned (.string r) ∧ Drawn0 w w' := by
  obtain ⟨hb, rfl⟩ := if_out h
  obtain ⟨k, hk⟩ := BaseFacts.sum_f a0 hb.out
  exact PBase.planisphereref01_Sum.calls k a0 _ w hk
def planisphereref01_Decimal.f (a0 : Int) : Option ByteArray := if 0 ≤ a0 ∧ a0 ≤ 140737488355328 then some (ofT (Lib.decDigits a0.toNat)) else none
theorem planisphereref01_Decimal.calls (a0 : Int) (r : ByteArray) (w : World) (h : planisphereref01_Decimal.f a0 = some r) :
    Calls Tryd.prog 47 #[.int .i64 a0] w fun e w' => e = .returned (.string r) ∧ Drawn0 w w' := by
  obtain ⟨hb, rfl⟩ := if_out h
  obtain ⟨u, rfl⟩ := Int.eq_ofNat_of_zero_le hb.1
  exact PBase.planisphereref01_Decimal.calls 30 u _ w (BaseFacts.decimal_f u (by omega))
def planisphereref01_Is.f (a0 : ByteArray) : Option Bool := if Big a0.size then some (Dig.isD (tx a0)) else none
theorem planisphereref01_Is.calls (a0 : ByteArray) (r : Bool) (w : World) (h : planisphereref01_Is.f a0 = some r) :
    Calls Tryd.prog 22 #[.string a0] w fun e w' => e = .returned (.bool r) ∧ Drawn0 w w' := by
  obtain ⟨hb, rfl⟩ := if_out h
  exact PBase.planisphereref01_Is.calls 100 a0 _ w (BaseFacts.is_f a0 hb.out)
def planisphereref01_Same.f (l0 l1 : List ByteArray) : Option Bool := if Len63 l0.length then some (decide (l0 = l1)) else none
theorem planisphereref01_Same.calls (A0 : Option Addr) (c0 : Nat) (l0 : List ByteArray) (A1 : Option Addr) (c1 : Nat) (l1 : List ByteArray) (r : Bool) (w : World) (hr0 : Kd.C Kd.string w A0 l0.length l0) (hc0 : l0.length ≤ c0) (hr1 : Kd.C Kd.string w A1 l1.length l1) (hc1 : l1.length ≤ c1) (h : planisphereref01_Same.f l0 l1 = some r) :
    Calls Tryd.prog 24 #[.slice A0 l0.length c0, .slice A1 l1.length c1] w fun e w' => e = .returned (.bool r) ∧ Drawn0 w w' := by
  obtain ⟨hb, rfl⟩ := if_out h
  exact PBase.planisphereref01_Same.calls _ A0 c0 l0 A1 c1 l1 _ w hr0 hc0 hr1 hc1 (BaseFacts.same_f l0 l1 hb.out)
def planispherelaw02_short.f (l0 : List ByteArray) : Option Bool := if Len63 l0.length then some (BaseFacts.shortT l0) else none
theorem planispherelaw02_short.calls (A0 : Option Addr) (c0 : Nat) (l0 : List ByteArray) (r : Bool) (w : World) (hr0 : Kd.C Kd.string w A0 l0.length l0) (hc0 : l0.length ≤ c0) (h : planispherelaw02_short.f l0 = some r) :
    Calls Tryd.prog 26 #[.slice A0 l0.length c0] w fun e w' => e = .returned (.bool r) ∧ Drawn0 w w' := by
  obtain ⟨hb, rfl⟩ := if_out h
  exact PBase.planispherelaw02_short.calls _ A0 c0 l0 _ w hr0 hc0 (BaseFacts.short_f l0 hb.out)
def planisphereref01_Joined.f (l0 : List ByteArray) : Option ByteArray := if Big (need l0) then some (ofT (Dig.joined (l0.map tx))) else none
theorem planisphereref01_Joined.calls (A0 : Option Addr) (c0 : Nat) (l0 : List ByteArray) (r : ByteArray) (w : World) (hr0 : Kd.C Kd.string w A0 l0.length l0) (hc0 : l0.length ≤ c0) (h : planisphereref01_Joined.f l0 = some r) :
    Calls Tryd.prog 23 #[.slice A0 l0.length c0] w fun e w' => e = .returned (.string r) ∧ Below w.heap.size w w' := by
  obtain ⟨hb, rfl⟩ := if_out h
  exact joined_calls A0 c0 l0 w hr0 hc0 hb
def planisphereref02_Power.f (a0 : Int) : Option Int := if 0 ≤ a0 ∧ a0 ≤ 62 then some ((2 ^ a0.toNat : Nat) : Int) else none
theorem planisphereref02_Power.calls (a0 : Int) (r : Int) (w : World) (h : planisphereref02_Power.f a0 = some r) :
    Calls Tryd.prog 55 #[.int .i64 a0] w fun e w' => e = .returned (.int .i64 r) ∧ Drawn0 w w' := by
  obtain ⟨hb, rfl⟩ := if_out h
  obtain ⟨u, rfl⟩ := Int.eq_ofNat_of_zero_le hb.1
  exact PBase.planisphereref02_Power.calls _ u _ w (BaseFacts.power_f u (by omega))
end Go.Proofs.YteleheamnighkaaDoor
end
section
namespace Go.Proofs.YteleheamnighkaaDoor.PHd
open Go.RowKit Go.Proofs.YteleheamnighkaaDoorW.PrintWords Go.Proofs.YteleheamnighkaaDoorW.PrintLast Go.Proofs.YteleheamnighkaaDoorW.PrintMore
attribute [local go_sem] max2_int min2_int max_two min_two max_three min_three max_four min_four   -- for this text's walks alone
set_option linter.unusedVariables false
set_option linter.unusedSimpArgs false
def errW : Option Int → Value
  | none => .nilIface
  | some c => .iface 0 (.int .i64 c)
theorem errW_none : errW none = .nilIface := rfl
theorem errW_some (c : Int) : errW (some c) = .iface 0 (.int .i64 c) := rfl
theorem info9 : (Tryd.prog.info? 9).map (fun i => (i.zero, i.size, i.bytes)) = some (some (.string ⟨#[]⟩), 1, 16) := by kernel_rfl
end Go.Proofs.YteleheamnighkaaDoor.PHd
end
section
set_option linter.unusedVariables false
set_option linter.unusedSimpArgs false
namespace Go.Proofs.YteleheamnighkaaDoor
open Go.RowKit Go.Proofs.YteleheamnighkaaDoorW.PrintWords
theorem dSum (s : ByteArray) (h : s.size ≤ 140737488355328) : digest_Sum.f s = some (ofT (Dig.sum (tx s))) := if_pos h
theorem dList (l : List ByteArray) (h : need l ≤ 140737488355328) : digest_List.f l = some (ofT (Dig.sum (Dig.joined (l.map tx)))) := if_pos h
theorem rSum (s : ByteArray) (h : s.size ≤ 140737488355328) : planisphereref01_Sum.f s = some (ofT (Dig.sum (tx s))) := if_pos h
theorem rIs (s : ByteArray) (h : s.size ≤ 140737488355328) : planisphereref01_Is.f s = some (Dig.isD (tx s)) := if_pos h
theorem rJoined (l : List ByteArray) (h : need l ≤ 140737488355328) : planisphereref01_Joined.f l = some (ofT (Dig.joined (l.map tx))) := if_pos h
theorem rSame (l m : List ByteArray) (h : l.length ≤ 9223372036854775807) : planisphereref01_Same.f l m = some (decide (l = m)) := if_pos h
end Go.Proofs.YteleheamnighkaaDoor
end
section
set_option linter.unusedVariables false
namespace Go.Proofs.YteleheamnighkaaDoor
open Go.RowKit Go.DoorKit Go.Proofs.YteleheamnighkaaDoorW.PrintWords
def strconv_Itoa.f (a0 : Int) : Option ByteArray := if 0 ≤ a0 ∧ a0 ≤ 140737488355328 then some (ofT (Lib.decDigits a0.toNat)) else none
theorem strconv_Itoa.calls (a0 : Int) (r : ByteArray) (w : World) (h : strconv_Itoa.f a0 = some r) (hG : Glob w) :
    Calls Tryd.prog 43 #[.int .i64 a0] w fun e w' => e = .returned (.string r) ∧ Below w.heap.size w w' := by
  obtain ⟨hb, rfl⟩ := if_out h
  refine (itoa_any a0 hb.1 (Int.le_trans hb.2 (by decide)) w hG).mono ?_
  rintro e w' ⟨⟨t, rfl, ht, _⟩, hbel⟩
  refine ⟨?_, hbel⟩
  congr 2
  exact tx_inj ht.out
end Go.Proofs.YteleheamnighkaaDoor
end
section
set_option linter.unusedVariables false
set_option linter.unusedSimpArgs false
namespace Go.Proofs.YteleheamnighkaaDoor
open Go.RowKit Go.Proofs.YteleheamnighkaaDoorW.PrintWords
namespace Pure
theorem need_of : ∀ {l : List ByteArray} {m : Nat}, (∀ s ∈ l, s.size ≤ m) → need l ≤ l.length * (m + 21)
  | [], m, _ => by simp [need]
  | s :: l, m, h => by
    have ih := need_of (l := l) (m := m) (fun x hx => h x (by simp [hx]))
    have e : need (s :: l) = s.size + 21 + need l := rfl
    have := h s (by simp)
    rw [e, List.length_cons, Nat.add_mul]; omega
theorem sum_hex (l : List UInt8) : ∀ c ∈ Dig.sum l, Dig.isHex c = true := by
  intro c hc
  unfold Dig.sum Dig.hex at hc
  simp only [List.mem_map] at hc
  obtain ⟨i, _, rfl⟩ := hc
  have : ∀ t : Fin 16, Dig.isHex (Dig.hexd t.val) = true := by decide +kernel
  exact this ⟨_, Nat.mod_lt _ (by decide)⟩
theorem isD_len {l : List UInt8} (h : l.length ≠ 16) : Dig.isD l = false := by
  unfold Dig.isD; rw [show (l.length == 16) = false by simpa using h, Bool.false_and]
end Pure
end Go.Proofs.YteleheamnighkaaDoor
end
section
namespace Go.Dig
open Go.Lib
abbrev Txt := List UInt8
def lst (l : List Txt) : Txt := sum (joined l)
def hexv (c : UInt8) : Nat := if c.toNat < 58 then c.toNat - 48 else c.toNat - 87
def chain (t : Txt) : Nat → Txt
  | 0 => t
  | n + 1 => sum (chain t n)
theorem chain_sum (t : Txt) (n : Nat) : chain (sum t) n = chain t (n + 1) := by
  induction n with
  | zero => rfl
  | succ n ih => rw [chain, ih]; rfl
theorem chain_add (t : Txt) (a : Nat) : ∀ b : Nat, chain (chain t a) b = chain t (a + b)
  | 0 => rfl
  | b + 1 => by rw [chain, chain_add t a b]; rfl
def restOf (d : List Nat) : Nat := (d.map (15 - ·)).sum
def digits (m : Txt) : List Nat :=
  let d := (sum m).map hexv
  d ++ [restOf d / 16, restOf d % 16]
def startT (secret : Txt) (i k : Nat) : Txt := joined [secret, decDigits i, decDigits k]
def start0 (secret : Txt) (i k : Nat) : Txt := sum (startT secret i k)
def endsOf (secret : Txt) (i : Nat) : List Txt := (List.range 18).map fun k => chain (start0 secret i k) 15
def keyT (secret : Txt) (i : Nat) : Txt := joined (endsOf secret i)
def word : Txt := [110, 111, 100, 101]
def nodeT (a b : Txt) : Txt := joined [word, a, b]
def tree (secret : Txt) : Nat → Nat → Txt
  | 0, i => sum (keyT secret i)
  | j + 1, i => sum (nodeT (tree secret j (2 * i)) (tree secret j (2 * i + 1)))
def sib (x : Nat) : Nat := if x % 2 = 0 then x + 1 else x - 1
def stepT (at_ p : Txt) (i : Nat) : Txt := if i % 2 = 1 then nodeT p at_ else nodeT at_ p
def climb (at_ : Txt) (i : Nat) : List Txt → Txt
  | [] => at_
  | p :: ps => climb (sum (stepT at_ p i)) (i / 2) ps
theorem climb_snoc : ∀ (ps : List Txt) (at_ p : Txt) (i : Nat), climb at_ i (ps ++ [p]) = sum (stepT (climb at_ i ps) p (i / 2 ^ ps.length))
  | [], at_, p, i => by simp [climb]
  | q :: ps, at_, p, i => by
    rw [List.cons_append, climb, climb_snoc ps, climb, List.length_cons, Nat.pow_succ, Nat.mul_comm, ← Nat.div_div_eq_div_mul]
end Go.Dig
end
section
namespace Go.Proofs.YteleheamnighkaaDoor.PCa
open Go.RowKit Go.Proofs.YteleheamnighkaaDoorW.PrintWords Go.Proofs.YteleheamnighkaaDoorW.PrintLast Go.Proofs.YteleheamnighkaaDoorW.PrintMore
attribute [local go_sem] max2_int min2_int max_two min_two max_three min_three max_four min_four   -- for this text's walks alone
set_option linter.unusedVariables false
set_option linter.unusedSimpArgs false
def errW : Option Int → Value
  | none => .nilIface
  | some c => .iface 0 (.int .i64 c)
theorem errW_none : errW none = .nilIface := rfl
theorem errW_some (c : Int) : errW (some c) = .iface 0 (.int .i64 c) := rfl
end Go.Proofs.YteleheamnighkaaDoor.PCa
end
section
namespace Go.Proofs.YteleheamnighkaaDoor.PCa
open Go.RowKit Go.Proofs.YteleheamnighkaaDoorW.PrintWords Go.Proofs.YteleheamnighkaaDoorW.PrintLast Go.Proofs.YteleheamnighkaaDoorW.PrintMore
attribute [local go_sem] max2_int min2_int max_two min_two max_three min_three max_four min_four   -- for this text's walks alone
set_option linter.unusedVariables false
set_option linter.unusedSimpArgs false
def planisphereref02_chain.l0 : Nat → ByteArray → Int → Int → Option (ByteArray)
  | 0, _, _, _ => none
  | k + 1, x0, x1, x5 => if x5 < x1 then ((planisphereref01_Sum.f x0).bind fun t101 => (planisphereref02_chain.l0 k t101 x1 (wrap64 (x5 + 1)))) else (some x0)
def planisphereref02_chain.f (k : Nat) (a0 : ByteArray) (a1 : Int) : Option (ByteArray) := planisphereref02_chain.l0 k a0 a1 0
set_option maxHeartbeats 8000000 in
set_option maxRecDepth 100000 in
theorem planisphereref02_chain.calls (k : Nat) (a0 : ByteArray) (a1 : Int) (r : ByteArray) (w : World) (h : planisphereref02_chain.f k a0 a1 = some r) :
    Calls Tryd.prog 57 #[.string a0, .int .i64 a1] w fun e w' => e = .returned (.string r) ∧ Drawn0 w w' := by
  have H : (planisphereref02_chain.l0 k a0 a1 0) = some r := h
  clear h
  have H' := Aside0.mk H
  clear H
  go_enter Tryd.func57, Tryd.ntmps57
  go_wp2
  go_loopg [0, 5] k (fun kq v0 v5 w' => ∃ (x0_1 : ByteArray) (x5_1 : Int), v0 = .string x0_1 ∧ v5 = .int .i64 x5_1 ∧ Aside0 (planisphereref02_chain.l0 kq x0_1 a1 x5_1 = some r) ∧ Aside0 (kq ≤ k) ∧ Drawn0 w w')
  case atStart => exact ⟨(a0), (0), (by first | rfl | (simp; done) | (simp [*]; done)), (by first | rfl | (simp; done) | (simp [*]; done)), H', ⟨Nat.le_refl _⟩, by repeat (first | exact Drawn0.refl _ | apply Drawn0.step)⟩
  case round =>
    clear H'
    try clear p2
    obtain ⟨x0_1, x5_1, rfl, rfl, HA, HK1, ⟨m1, rfl⟩⟩ := hrel
    cases gk with
    | zero => exact absurd HA.out (by simp [planisphereref02_chain.l0])
    | succ k1 =>
      have H := HA.out
      clear HA
      simp only [planisphereref02_chain.l0] at H
      by_cases c3 : x5_1 < a1
      · rw [if_pos c3] at H
        have c3b0 : decide (x5_1 < a1) = true := decide_eq_true c3
        clear c3
        replace H := Option.bind_eq_some_iff.mp H
        obtain ⟨t101, A40, H⟩ := H
        replace H : (planisphereref02_chain.l0 k1 t101 a1 (wrap64 (x5_1 + 1))) = some r := H
        have A4 := Aside0.mk A40
        clear A40
        have H' := Aside0.mk H
        clear H
        go_wp2_with (first | ((with_reducible refine gate_callee (f := 18) rfl ?_); refine goesL_ (some 12) rfl rfl Tryd.func18 (by kernel_rfl) rfl #[.string x0_1] rfl (by (try simp only [List.map_toArray, List.map_cons, List.map_nil]); first | done | rfl | (simp only [List.length_drop, List.length_take]; rfl)) ?_; (with_reducible refine (planisphereref01_Sum.calls x0_1 t101 _ A4.out).mono ?_); clear A4; rintro e w' ⟨rfl, ⟨nd, rfl⟩⟩; refine ⟨_, rfl, ?_⟩))
        go_roundg k1
        case measure => have := HK1.out; omega
        case rel => exact ⟨(t101), (wrap64 (x5_1 + 1)), (by first | rfl | (simp; done) | (simp [*]; done)), (by first | rfl | (simp; done) | (simp [*]; done)), H', ⟨by have := HK1.out; omega⟩, by repeat (first | exact Drawn0.refl _ | apply Drawn0.step)⟩
      · rw [if_neg c3] at H
        have c3b0 : decide (x5_1 < a1) = false := decide_eq_false c3
        clear c3
        obtain rfl := Option.some.inj H
        go_wp2
        go_ret
        exact ⟨by first | rfl | (simp; done) | (simp [*]; done), by repeat (first | exact Drawn0.refl _ | apply Drawn0.step)⟩
def planisphereref01_List.f (l0 : List ByteArray) : Option (ByteArray) := (planisphereref01_Joined.f l0).bind fun t102 => ((planisphereref01_Sum.f t102).bind fun t103 => (some t103))
set_option maxHeartbeats 8000000 in
set_option maxRecDepth 100000 in
theorem planisphereref01_List.calls (A0 : Option Addr) (c0 : Nat) (l0 : List ByteArray) (r : ByteArray) (w : World) (hr0 : Kd.C Kd.string w A0 l0.length l0) (hc0 : l0.length ≤ c0) (h : planisphereref01_List.f l0 = some r) :
    Calls Tryd.prog 20 #[.slice A0 l0.length c0] w fun e w' => e = .returned (.string r) ∧ Below w.heap.size w w' := by
  have HR0 := Aside0.mk hr0
  have HC0 := Aside0.mk hc0
  clear hr0 hc0
  have HB := Aside0.mk (Below.refl w.heap.size w)
  have H : ((planisphereref01_Joined.f l0).bind fun t102 => ((planisphereref01_Sum.f t102).bind fun t103 => (some t103))) = some r := h
  clear h
  replace H := Option.bind_eq_some_iff.mp H
  obtain ⟨t102, A20, H⟩ := H
  replace H : ((planisphereref01_Sum.f t102).bind fun t103 => (some t103)) = some r := H
  have A2 := Aside0.mk A20
  clear A20
  replace H := Option.bind_eq_some_iff.mp H
  obtain ⟨t103, A30, H⟩ := H
  replace H : (some t103) = some r := H
  have A3 := Aside0.mk A30
  clear A30
  obtain rfl := Option.some.inj H
  go_enter Tryd.func20, Tryd.ntmps20
  go_wp2_with (first | ((with_reducible refine gate_callee (f := 23) rfl ?_); refine goesL_ (some 4) rfl rfl Tryd.func23 (by kernel_rfl) rfl #[.slice A0 l0.length c0] rfl (by (try simp only [List.map_toArray, List.map_cons, List.map_nil]); first | done | rfl | (simp only [List.length_drop, List.length_take]; rfl)) ?_; (with_reducible refine (planisphereref01_Joined.calls _ _ l0 t102 _ ?side1 ?side2 A2.out).mono ?_); clear A2; (case side1 => repeat (first | exact HR0.out | (with_reducible refine Kd.C_alloc ?_ _) | (with_reducible refine Kd.C_drewN ?_ _) | (with_reducible refine Kd.C_drew ?_))); (case side2 => exact HC0.out); rintro e w4 ⟨rfl, hb⟩; refine ⟨_, rfl, ?_⟩; have n0_ := Aside0.mk (below_step (by repeat (first | (with_reducible first | exact HB.out | apply below_alloc | apply pw_below_drewN | apply below_drew1) | exact HB.out)) hb); clear HB; have HB := n0_; clear n0_; (try clear hb); (try clear hb2); (try clear hk); (try clear hi)) | ((with_reducible refine gate_callee (f := 18) rfl ?_); refine goesL_ (some 5) rfl rfl Tryd.func18 (by kernel_rfl) rfl #[.string t102] rfl (by (try simp only [List.map_toArray, List.map_cons, List.map_nil]); first | done | rfl | (simp only [List.length_drop, List.length_take]; rfl)) ?_; (with_reducible refine (planisphereref01_Sum.calls t102 t103 _ A3.out).mono ?_); clear A3; rintro e w' ⟨rfl, ⟨nd, rfl⟩⟩; refine ⟨_, rfl, ?_⟩))
  go_ret
  exact ⟨by first | rfl | (simp [errW_none, errW_some] <;> rfl) | (simp [*, errW_none, errW_some] <;> rfl), by repeat (first | (with_reducible first | exact HB.out | apply below_alloc | apply pw_below_drewN | apply below_drew1) | exact HB.out)⟩
def seal_chain.l0 : Nat → ByteArray → Int → Int → Option (ByteArray)
  | 0, _, _, _ => none
  | k + 1, x0, x5, x6 => if x6 < x5 then ((digest_Sum.f x0).bind fun t104 => (seal_chain.l0 k t104 x5 (wrap64 (x6 + 1)))) else (some x0)
def seal_chain.f (k : Nat) (a0 : ByteArray) (a1 : Int) : Option (ByteArray) := seal_chain.l0 k a0 a1 0
set_option maxHeartbeats 8000000 in
set_option maxRecDepth 100000 in
theorem seal_chain.calls (k : Nat) (a0 : ByteArray) (a1 : Int) (r : ByteArray) (w : World) (h : seal_chain.f k a0 a1 = some r) :
    Calls Tryd.prog 53 #[.string a0, .int .i64 a1] w fun e w' => e = .returned (.string r) ∧ Below w.heap.size w w' := by
  have HB := Aside0.mk (Below.refl w.heap.size w)
  have H : (seal_chain.l0 k a0 a1 0) = some r := h
  clear h
  have H' := Aside0.mk H
  clear H
  go_enter Tryd.func53, Tryd.ntmps53
  go_wp2
  go_loopg [0, 6] k (fun kq v0 v6 w' => ∃ (x0_1 : ByteArray) (x6_1 : Int), v0 = .string x0_1 ∧ v6 = .int .i64 x6_1 ∧ Aside0 (seal_chain.l0 kq x0_1 a1 x6_1 = some r) ∧ Aside0 (kq ≤ k) ∧ Aside0 (Below w.heap.size w w'))
  case atStart => exact ⟨(a0), (0), (by first | rfl | (simp; done) | (simp [*]; done)), (by first | rfl | (simp; done) | (simp [*]; done)), H', ⟨Nat.le_refl _⟩, ⟨by repeat (first | (with_reducible first | exact HB.out | apply below_alloc | apply pw_below_drewN | apply below_drew1) | exact HB.out)⟩⟩
  case round =>
    clear H'
    try clear p2
    obtain ⟨x0_1, x6_1, rfl, rfl, HA, HK1, HB⟩ := hrel
    cases gk with
    | zero => exact absurd HA.out (by simp [seal_chain.l0])
    | succ k1 =>
      have H := HA.out
      clear HA
      simp only [seal_chain.l0] at H
      by_cases c3 : x6_1 < a1
      · rw [if_pos c3] at H
        have c3b0 : decide (x6_1 < a1) = true := decide_eq_true c3
        clear c3
        replace H := Option.bind_eq_some_iff.mp H
        obtain ⟨t104, A40, H⟩ := H
        replace H : (seal_chain.l0 k1 t104 a1 (wrap64 (x6_1 + 1))) = some r := H
        have A4 := Aside0.mk A40
        clear A40
        have H' := Aside0.mk H
        clear H
        go_wp2_with (first | ((with_reducible refine gate_callee (f := 17) rfl ?_); refine goesL_ (some 9) rfl rfl Tryd.func17 (by kernel_rfl) rfl #[.string x0_1] rfl (by (try simp only [List.map_toArray, List.map_cons, List.map_nil]); first | done | rfl | (simp only [List.length_drop, List.length_take]; rfl)) ?_; (with_reducible refine (digest_Sum.calls x0_1 t104 _ A4.out).mono ?_); clear A4; rintro e w5 ⟨rfl, hb⟩; refine ⟨_, rfl, ?_⟩; have n0_ := Aside0.mk (below_step (by repeat (first | (with_reducible first | exact HB.out | apply below_alloc | apply pw_below_drewN | apply below_drew1) | exact HB.out)) hb); clear HB; have HB := n0_; clear n0_; (try clear hb); (try clear hb2); (try clear hk); (try clear hi)))
        go_roundg k1
        case measure => have := HK1.out; omega
        case rel => exact ⟨(t104), (wrap64 (x6_1 + 1)), (by first | rfl | (simp; done) | (simp [*]; done)), (by first | rfl | (simp; done) | (simp [*]; done)), H', ⟨by have := HK1.out; omega⟩, ⟨by repeat (first | (with_reducible first | exact HB.out | apply below_alloc | apply pw_below_drewN | apply below_drew1) | exact HB.out)⟩⟩
      · rw [if_neg c3] at H
        have c3b0 : decide (x6_1 < a1) = false := decide_eq_false c3
        clear c3
        obtain rfl := Option.some.inj H
        go_wp2
        go_ret
        exact ⟨by first | rfl | (simp [errW_none, errW_some] <;> rfl) | (simp [*, errW_none, errW_some] <;> rfl), by repeat (first | (with_reducible first | exact HB.out | apply below_alloc | apply pw_below_drewN | apply below_drew1) | exact HB.out)⟩
def seal_of.f (l0 : List ByteArray) : Option (ByteArray) := (digest_List.f l0).bind fun t105 => (some t105)
set_option maxHeartbeats 8000000 in
set_option maxRecDepth 100000 in
theorem seal_of.calls (A0 : Option Addr) (c0 : Nat) (l0 : List ByteArray) (r : ByteArray) (w : World) (hr0 : Kd.C Kd.string w A0 l0.length l0) (hc0 : l0.length ≤ c0) (h : seal_of.f l0 = some r) (hG : Glob w) :
    Calls Tryd.prog 63 #[.slice A0 l0.length c0] w fun e w' => e = .returned (.string r) ∧ Below w.heap.size w w' := by
  have HG_ := Aside0.mk hG
  clear hG
  have HR0 := Aside0.mk hr0
  have HC0 := Aside0.mk hc0
  clear hr0 hc0
  have HB := Aside0.mk (Below.refl w.heap.size w)
  have H : ((digest_List.f l0).bind fun t105 => (some t105)) = some r := h
  clear h
  replace H := Option.bind_eq_some_iff.mp H
  obtain ⟨t105, A20, H⟩ := H
  replace H : (some t105) = some r := H
  have A2 := Aside0.mk A20
  clear A20
  obtain rfl := Option.some.inj H
  go_enter Tryd.func63, Tryd.ntmps63
  go_wp2_with (first | ((with_reducible refine gate_callee (f := 19) rfl ?_); refine goesL_ (some 4) rfl rfl Tryd.func19 (by kernel_rfl) rfl #[.slice A0 l0.length c0] rfl (by (try simp only [List.map_toArray, List.map_cons, List.map_nil]); first | done | rfl | (simp only [List.length_drop, List.length_take]; rfl)) ?_; (with_reducible refine (digest_List.calls _ _ l0 t105 _ ?side1 ?side2 A2.out (hG := ?hGl)).mono ?_); clear A2; (case hGl => exact (Glob.below HG_.out (by repeat (first | (with_reducible first | exact HB.out | apply below_alloc | apply pw_below_drewN | apply below_drew1) | exact HB.out)))); (case side1 => repeat (first | exact HR0.out | (with_reducible refine Kd.C_alloc ?_ _) | (with_reducible refine Kd.C_drewN ?_ _) | (with_reducible refine Kd.C_drew ?_))); (case side2 => exact HC0.out); rintro e w3 ⟨rfl, hb⟩; refine ⟨_, rfl, ?_⟩; have n0_ := Aside0.mk (below_step (by repeat (first | (with_reducible first | exact HB.out | apply below_alloc | apply pw_below_drewN | apply below_drew1) | exact HB.out)) hb); clear HB; have HB := n0_; clear n0_; (try clear hb); (try clear hb2); (try clear hk); (try clear hi)))
  go_ret
  exact ⟨by first | rfl | (simp [errW_none, errW_some] <;> rfl) | (simp [*, errW_none, errW_some] <;> rfl), by repeat (first | (with_reducible first | exact HB.out | apply below_alloc | apply pw_below_drewN | apply below_drew1) | exact HB.out)⟩
def planisphereref01_Digit.j0 : Nat → Int → Bool → Option (Int)
  | 0, _, _ => none
  | k + 1, x0, x8 => if x8 = true then (some ((x0 - 48) % 256)) else (if x0 ≥ 97 then (if x0 ≤ 102 then (some (((x0 - 97) % 256) + 10)) else (some (-1))) else (some (-1)))
def planisphereref01_Digit.f (k : Nat) (a0 : Int) : Option (Int) := if a0 ≥ 48 then (planisphereref01_Digit.j0 k a0 (decide (a0 ≤ 57))) else (planisphereref01_Digit.j0 k a0 false)
set_option maxHeartbeats 8000000 in
set_option maxRecDepth 100000 in
theorem planisphereref01_Digit.calls (k : Nat) (a0 : Int) (r : Int) (w : World) (h : planisphereref01_Digit.f k a0 = some r) :
    Calls Tryd.prog 46 #[.int .u8 a0] w fun e w' => e = .returned (.int .i64 r) ∧ Drawn0 w w' := by
  have H : (if a0 ≥ 48 then (planisphereref01_Digit.j0 k a0 (decide (a0 ≤ 57))) else (planisphereref01_Digit.j0 k a0 false)) = some r := h
  clear h
  have HC2 := Aside0.mk H
  clear H
  go_enter Tryd.func46, Tryd.ntmps46
  go_upto_region 1 with (fail)
  go_cut [8] (fun v8 wc => ∃ (kq : Nat) (x8_1 : Bool), v8 = .bool x8_1 ∧ Aside0 (planisphereref01_Digit.j0 kq a0 x8_1 = some r) ∧ Aside0 (kq ≤ k) ∧ Drawn0 w wc)
  case first =>
    have H := HC2.out
    clear HC2
    by_cases c3 : a0 ≥ 48
    · rw [if_pos c3] at H
      have c3b0 : decide (48 ≤ a0) = true := decide_eq_true c3
      clear c3
      (first | rw [c3b0] | (simp only [i64_w, i32_w]; rw [c3b0]) | skip)
      have H' := Aside0.mk H
      clear H
      go_wp2
      go_meet
      case rel => exact ⟨_, (decide (a0 ≤ 57)), (by first | rfl | (simp; done) | (simp [*]; done)), H', ⟨by first | omega | exact Nat.le_refl _⟩, by repeat (first | exact Drawn0.refl _ | apply Drawn0.step)⟩
    · rw [if_neg c3] at H
      have c3b0 : decide (48 ≤ a0) = false := decide_eq_false c3
      clear c3
      (first | rw [c3b0] | (simp only [i64_w, i32_w]; rw [c3b0]) | skip)
      have H' := Aside0.mk H
      clear H
      go_wp2
      go_meet
      case rel => exact ⟨_, (false), (by first | rfl | (simp; done) | (simp [*]; done)), H', ⟨by first | omega | exact Nat.le_refl _⟩, by repeat (first | exact Drawn0.refl _ | apply Drawn0.step)⟩
  case rest =>
    clear HC2
    try clear p2
    try clear c3
    try clear c3b0
    obtain ⟨kq, x8_1, rfl, HA, HJ1, ⟨mc1, rfl⟩⟩ := hcut
    cases kq with
    | zero => exact absurd HA.out (by simp [planisphereref01_Digit.j0])
    | succ kj1 =>
      have H := HA.out
      clear HA
      simp only [planisphereref01_Digit.j0] at H
      by_cases c4 : x8_1 = true
      · subst c4
        have H1 : (some ((a0 - 48) % 256)) = some r := by rw [if_pos rfl] at H; exact H
        clear H
        have H := H1
        clear H1
        obtain rfl := Option.some.inj H
        go_wp2
        go_ret
        exact ⟨by first | rfl | (simp; done) | (simp [*]; done), by repeat (first | exact Drawn0.refl _ | apply Drawn0.step)⟩
      · replace c4 := Bool.eq_false_iff.mpr c4
        subst c4
        have H1 : (if a0 ≥ 97 then (if a0 ≤ 102 then (some (((a0 - 97) % 256) + 10)) else (some (-1))) else (some (-1))) = some r := by rw [if_neg (show ¬ (false = true) by decide)] at H; exact H
        clear H
        have H := H1
        clear H1
        by_cases c5 : a0 ≥ 97
        · rw [if_pos c5] at H
          have c5b0 : decide (97 ≤ a0) = true := decide_eq_true c5
          clear c5
          by_cases c6 : a0 ≤ 102
          · rw [if_pos c6] at H
            have c6b0 : decide (a0 ≤ 102) = true := decide_eq_true c6
            clear c6
            obtain rfl := Option.some.inj H
            go_wp2
            go_ret
            exact ⟨by first | rfl | (simp; done) | (simp [*]; done), by repeat (first | exact Drawn0.refl _ | apply Drawn0.step)⟩
          · rw [if_neg c6] at H
            have c6b0 : decide (a0 ≤ 102) = false := decide_eq_false c6
            clear c6
            obtain rfl := Option.some.inj H
            go_wp2
            go_ret
            exact ⟨by first | rfl | (simp; done) | (simp [*]; done), by repeat (first | exact Drawn0.refl _ | apply Drawn0.step)⟩
        · rw [if_neg c5] at H
          have c5b0 : decide (97 ≤ a0) = false := decide_eq_false c5
          clear c5
          obtain rfl := Option.some.inj H
          go_wp2
          go_ret
          exact ⟨by first | rfl | (simp; done) | (simp [*]; done), by repeat (first | exact Drawn0.refl _ | apply Drawn0.step)⟩
end Go.Proofs.YteleheamnighkaaDoor.PCa
end
section
set_option linter.unusedVariables false
set_option linter.unusedSimpArgs false
namespace Go.Proofs.YteleheamnighkaaDoor
open Go.RowKit Go.DoorKit Go.Proofs.YteleheamnighkaaDoorW.PrintWords
theorem sum_big (l : List UInt8) : (ofT (Dig.sum l)).size ≤ 140737488355328 := by rw [size_ofT, Dig.sum_len]; decide
theorem chain_step (t : ByteArray) (d : Nat) : ofT (Dig.chain (tx (ofT (Dig.sum (tx t)))) d) = ofT (Dig.chain (tx t) (d + 1)) := by rw [tx_ofT, Dig.chain_sum]
theorem wrap_succ (i : Nat) (h : i ≤ 4000) : wrap64 ((i : Int) + 1) = ((i + 1 : Nat) : Int) := by unfold wrap64; omega
theorem rchain_l0 (n : Nat) (hn : n ≤ 1000) : ∀ (d i : Nat) (x : ByteArray), i + d = n → x.size ≤ 140737488355328 → PCa.planisphereref02_chain.l0 (d + 1) x n i = some (ofT (Dig.chain (tx x) d))
  | 0, i, x, h, hx => by
    rw [PCa.planisphereref02_chain.l0, if_neg (by omega)]; rfl
  | d + 1, i, x, h, hx => by
    rw [PCa.planisphereref02_chain.l0, if_pos (by omega), rSum x hx, Option.bind_some, wrap_succ i (by omega), rchain_l0 n hn d (i + 1) _ (by omega) (sum_big _), chain_step]
theorem schain_l0 (n : Nat) (hn : n ≤ 1000) : ∀ (d i : Nat) (x : ByteArray), i + d = n → x.size ≤ 140737488355328 → PCa.seal_chain.l0 (d + 1) x n i = some (ofT (Dig.chain (tx x) d))
  | 0, i, x, h, hx => by
    rw [PCa.seal_chain.l0, if_neg (by omega)]; rfl
  | d + 1, i, x, h, hx => by
    rw [PCa.seal_chain.l0, if_pos (by omega), dSum x hx, Option.bind_some, wrap_succ i (by omega), schain_l0 n hn d (i + 1) _ (by omega) (sum_big _), chain_step]
theorem below_of_drawn {w w' : World} (h : Drawn0 w w') : Below w.heap.size w w' := by
  obtain ⟨nd, rfl⟩ := h
  exact pw_below_drewN (Below.refl _ _) _
def Links (s : ByteArray) (n : Int) : Prop := s.size ≤ 140737488355328 ∧ 0 ≤ n ∧ n ≤ 1000
instance (s : ByteArray) (n : Int) : Decidable (Links s n) := inferInstanceAs (Decidable (s.size ≤ 140737488355328 ∧ 0 ≤ n ∧ n ≤ 1000))
theorem Links.mk {s : ByteArray} {n : Int} (h : s.size ≤ 140737488355328) (h0 : 0 ≤ n) (h1 : n ≤ 1000) : Links s n := ⟨h, h0, h1⟩
def planisphereref02_chain.f (a0 : ByteArray) (a1 : Int) : Option ByteArray := if Links a0 a1 then some (ofT (Dig.chain (tx a0) a1.toNat)) else none
theorem planisphereref02_chain.calls (a0 : ByteArray) (a1 : Int) (r : ByteArray) (w : World) (h : planisphereref02_chain.f a0 a1 = some r) :
    Calls Tryd.prog 57 #[.string a0, .int .i64 a1] w fun e w' => e = .returned (.string r) ∧ Below w.heap.size w w' := by
  obtain ⟨⟨h0, h1, h2⟩, rfl⟩ := if_out h
  obtain ⟨n, rfl⟩ := Int.eq_ofNat_of_zero_le h1
  refine (PCa.planisphereref02_chain.calls (n + 1) a0 n _ w (rchain_l0 n (by omega) n 0 a0 (by omega) h0)).mono ?_
  rintro e w' ⟨rfl, hd⟩
  exact ⟨rfl, below_of_drawn hd⟩
def seal_chain.f (a0 : ByteArray) (a1 : Int) : Option ByteArray := if Links a0 a1 then some (ofT (Dig.chain (tx a0) a1.toNat)) else none
theorem seal_chain.calls (a0 : ByteArray) (a1 : Int) (r : ByteArray) (w : World) (h : seal_chain.f a0 a1 = some r) :
    Calls Tryd.prog 53 #[.string a0, .int .i64 a1] w fun e w' => e = .returned (.string r) ∧ Below w.heap.size w w' := by
  obtain ⟨⟨h0, h1, h2⟩, rfl⟩ := if_out h
  obtain ⟨n, rfl⟩ := Int.eq_ofNat_of_zero_le h1
  exact PCa.seal_chain.calls (n + 1) a0 n _ w (schain_l0 n (by omega) n 0 a0 (by omega) h0)
def planisphereref01_List.f (l0 : List ByteArray) : Option ByteArray := if Big (need l0) then some (ofT (Dig.lst (l0.map tx))) else none
theorem planisphereref01_List.calls (A0 : Option Addr) (c0 : Nat) (l0 : List ByteArray) (r : ByteArray) (w : World) (hr0 : Kd.C Kd.string w A0 l0.length l0) (hc0 : l0.length ≤ c0) (h : planisphereref01_List.f l0 = some r) :
    Calls Tryd.prog 20 #[.slice A0 l0.length c0] w fun e w' => e = .returned (.string r) ∧ Below w.heap.size w w' := by
  obtain ⟨hb, rfl⟩ := if_out h
  refine PCa.planisphereref01_List.calls A0 c0 l0 _ w hr0 hc0 ?_
  unfold PCa.planisphereref01_List.f
  rw [rJoined l0 hb, Option.bind_some, rSum _ (by rw [size_ofT]; exact Nat.le_trans (joined_need l0 hb) hb), Option.bind_some, tx_ofT]; rfl
def seal_of.f (l0 : List ByteArray) : Option ByteArray := if Big (need l0) then some (ofT (Dig.lst (l0.map tx))) else none
theorem seal_of.calls (A0 : Option Addr) (c0 : Nat) (l0 : List ByteArray) (r : ByteArray) (w : World) (hr0 : Kd.C Kd.string w A0 l0.length l0) (hc0 : l0.length ≤ c0) (h : seal_of.f l0 = some r) (hG : Glob w) :
    Calls Tryd.prog 63 #[.slice A0 l0.length c0] w fun e w' => e = .returned (.string r) ∧ Below w.heap.size w w' := by
  obtain ⟨hb, rfl⟩ := if_out h
  refine PCa.seal_of.calls A0 c0 l0 _ w hr0 hc0 ?_ hG
  unfold PCa.seal_of.f
  rw [dList l0 hb, Option.bind_some]; rfl
def HexC (n : Int) : Prop := 48 ≤ n ∧ n ≤ 57 ∨ 97 ≤ n ∧ n ≤ 102
instance (n : Int) : Decidable (HexC n) := inferInstanceAs (Decidable (48 ≤ n ∧ n ≤ 57 ∨ 97 ≤ n ∧ n ≤ 102))
def hexI (n : Int) : Int := if n ≤ 57 then n - 48 else n - 87
theorem digit_f (a0 : Int) (h : HexC a0) : PCa.planisphereref01_Digit.f 1 a0 = some (hexI a0) := by
  unfold PCa.planisphereref01_Digit.f hexI
  rcases h with h | h
  · rw [if_pos (by omega), decide_eq_true h.2, PCa.planisphereref01_Digit.j0, if_pos rfl, if_pos h.2]
    congr 1; omega
  · rw [if_pos (by omega), decide_eq_false (by omega), PCa.planisphereref01_Digit.j0, if_neg Bool.false_ne_true, if_pos (by omega), if_pos (by omega), if_neg (by omega)]
    congr 1; omega
def planisphereref01_Digit.f (a0 : Int) : Option Int := if HexC a0 then some (hexI a0) else none
theorem planisphereref01_Digit.calls (a0 : Int) (r : Int) (w : World) (h : planisphereref01_Digit.f a0 = some r) :
    Calls Tryd.prog 46 #[.int .u8 a0] w fun e w' => e = .returned (.int .i64 r) ∧ Below w.heap.size w w' := by
  obtain ⟨hb, rfl⟩ := if_out h
  refine (PCa.planisphereref01_Digit.calls 1 a0 _ w (digit_f a0 hb)).mono ?_
  rintro e w' ⟨rfl, hd⟩
  exact ⟨rfl, below_of_drawn hd⟩
theorem planisphereref01_Sum.callsB (a0 : ByteArray) (r : ByteArray) (w : World) (h : planisphereref01_Sum.f a0 = some r) :
    Calls Tryd.prog 18 #[.string a0] w fun e w' => e = .returned (.string r) ∧ Below w.heap.size w w' := by
  refine (planisphereref01_Sum.calls a0 r w h).mono ?_
  rintro e w' ⟨rfl, hd⟩
  exact ⟨rfl, below_of_drawn hd⟩
theorem planisphereref01_Decimal.callsB (a0 : Int) (r : ByteArray) (w : World) (h : planisphereref01_Decimal.f a0 = some r) :
    Calls Tryd.prog 47 #[.int .i64 a0] w fun e w' => e = .returned (.string r) ∧ Below w.heap.size w w' := by
  refine (planisphereref01_Decimal.calls a0 r w h).mono ?_
  rintro e w' ⟨rfl, hd⟩
  exact ⟨rfl, below_of_drawn hd⟩
theorem planisphereref01_Is.callsB (a0 : ByteArray) (r : Bool) (w : World) (h : planisphereref01_Is.f a0 = some r) :
    Calls Tryd.prog 22 #[.string a0] w fun e w' => e = .returned (.bool r) ∧ Below w.heap.size w w' := by
  refine (planisphereref01_Is.calls a0 r w h).mono ?_
  rintro e w' ⟨rfl, hd⟩
  exact ⟨rfl, below_of_drawn hd⟩
theorem planisphereref01_Same.callsB (A0 : Option Addr) (c0 : Nat) (l0 : List ByteArray) (A1 : Option Addr) (c1 : Nat) (l1 : List ByteArray) (r : Bool) (w : World) (hr0 : Kd.C Kd.string w A0 l0.length l0) (hc0 : l0.length ≤ c0) (hr1 : Kd.C Kd.string w A1 l1.length l1) (hc1 : l1.length ≤ c1) (h : planisphereref01_Same.f l0 l1 = some r) :
    Calls Tryd.prog 24 #[.slice A0 l0.length c0, .slice A1 l1.length c1] w fun e w' => e = .returned (.bool r) ∧ Below w.heap.size w w' := by
  refine (planisphereref01_Same.calls A0 c0 l0 A1 c1 l1 r w hr0 hc0 hr1 hc1 h).mono ?_
  rintro e w' ⟨rfl, hd⟩
  exact ⟨rfl, below_of_drawn hd⟩
theorem planispherelaw02_short.callsB (A0 : Option Addr) (c0 : Nat) (l0 : List ByteArray) (r : Bool) (w : World) (hr0 : Kd.C Kd.string w A0 l0.length l0) (hc0 : l0.length ≤ c0) (h : planispherelaw02_short.f l0 = some r) :
    Calls Tryd.prog 26 #[.slice A0 l0.length c0] w fun e w' => e = .returned (.bool r) ∧ Below w.heap.size w w' := by
  refine (planispherelaw02_short.calls A0 c0 l0 r w hr0 hc0 h).mono ?_
  rintro e w' ⟨rfl, hd⟩
  exact ⟨rfl, below_of_drawn hd⟩
theorem planisphereref02_Power.callsB (a0 : Int) (r : Int) (w : World) (h : planisphereref02_Power.f a0 = some r) :
    Calls Tryd.prog 55 #[.int .i64 a0] w fun e w' => e = .returned (.int .i64 r) ∧ Below w.heap.size w w' := by
  refine (planisphereref02_Power.calls a0 r w h).mono ?_
  rintro e w' ⟨rfl, hd⟩
  exact ⟨rfl, below_of_drawn hd⟩
end Go.Proofs.YteleheamnighkaaDoor
end
section
namespace Go.Proofs.YteleheamnighkaaDoor.PCb
open Go.RowKit Go.Proofs.YteleheamnighkaaDoorW.PrintWords Go.Proofs.YteleheamnighkaaDoorW.PrintLast Go.Proofs.YteleheamnighkaaDoorW.PrintMore
attribute [local go_sem] max2_int min2_int max_two min_two max_three min_three max_four min_four   -- for this text's walks alone
set_option linter.unusedVariables false
set_option linter.unusedSimpArgs false
def errW : Option Int → Value
  | none => .nilIface
  | some c => .iface 0 (.int .i64 c)
theorem errW_none : errW none = .nilIface := rfl
theorem errW_some (c : Int) : errW (some c) = .iface 0 (.int .i64 c) := rfl
theorem info3 : (Tryd.prog.info? 3).map (fun i => (i.zero, i.size, i.bytes)) = some (some (.int .i64 0), 1, 8) := by kernel_rfl
theorem info9 : (Tryd.prog.info? 9).map (fun i => (i.zero, i.size, i.bytes)) = some (some (.string ⟨#[]⟩), 1, 16) := by kernel_rfl
end Go.Proofs.YteleheamnighkaaDoor.PCb
end
