/-
What RowSForm leans on, part 3: the texts of this seat, merged.
-/
import Derived.Test.YteleheamnighkaaDoorMSFormb
import Derived.Shelf.Strings.Builder1
import Derived.Shelf.Small.Strs
import Derived.Shelf.Strconv.Itoa3
import Derived.Shelf.Strings.Search1
import Derived.Shelf.Strings.SlTrimAscii
import Derived.Shelf.Bits.Mul64
import Derived.Test.YteleheamnighkaaDoorProg
import Derived.Lib.ItoaNum
import Derived.Deep.QuietTactic
import Derived.BigQuiet
import Derived.LoopTactic
import Derived.Outline
import Derived.Lib.Strings
import Derived.Lib.ItoaLen
import Derived.Lib.AppendIntMem
import Derived.Laws.MakeOwn
import Derived.Below
import Derived.Deep.Draws
import Derived.Deep.AppendLies
import Derived.Maps.AppendAt
import Derived.OwnWalk
import Derived.Laws.BytesArg
import Derived.Laws.OwnMore
import Derived.Deep.OwnRows
import Derived.Tactics
import Derived.Lib.ConvBytes
import Derived.Laws.Slices
import Derived.WalkKit
import Derived.KernelRfl
import Derived.RowKit3
import Derived.Deep.LoopGhost
import Derived.WideLaws
import Derived.Deep.DeepCutAuto
import Derived.Deep.CutBlock
import Derived.Deep.RegionHeld3
import Derived.Laws.Rows
import Derived.Lib.AppendStr
import Derived.ArgAppend
import Derived.Laws.IdiomCopy
import Derived.OrdersHeld
import Derived.Laws.BitsLemmas
import Derived.RowKit
import Derived.RangeFuncBox
import Derived.Shelf.Abstract
import Derived.Shelf.RegionOpen
import Derived.OwnWalkIn
import Derived.TacticsInMore
import Derived.LoopNIn
import Derived.LoopIn
import Derived.Lib.Hide
section
namespace Go.Proofs
open Go.Shelf
def Tryd.lays169_ren : Go.Shelf.Ren := ⟨fun | 169 => 44 | n => n, fun | 70 => 62 | 9 => 9 | 0 => 0 | 72 => 64 | 37 => 56 | 127 => 89 | 3 => 3 | 5 => 5 | n => n, fun | n => n⟩
theorem Tryd.lays169 : Go.Proofs.Lays.n169 Tryd.prog Tryd.lays169_ren := {
  mixed := by kernel_rfl
  f169 := Tryd.func44.trans (congrArg some (by kernel_rfl))
  t0 := Tryd.underlying0
  a0 := Tryd.isAgg0
  z0 := Tryd.sizeOf0
  v0 := Tryd.zeroValue0
  t3 := Tryd.underlying3
  a3 := Tryd.isAgg3
  z3 := Tryd.sizeOf3
  v3 := Tryd.zeroValue3
  t9 := Tryd.underlying9
  a9 := Tryd.isAgg9
  z9 := Tryd.sizeOf9
  v9 := Tryd.zeroValue9
  t37 := Tryd.underlying56
  a37 := Tryd.isAgg56
  z37 := Tryd.sizeOf56
  v37 := Tryd.zeroValue56
  t70 := Tryd.underlying62
  a70 := Tryd.isAgg62
  z70 := Tryd.sizeOf62
  v70 := Tryd.zeroValue62
  t72 := Tryd.underlying64
  a72 := Tryd.isAgg64
  z72 := Tryd.sizeOf64
  v72 := Tryd.zeroValue64
  t127 := Tryd.underlying89
  a127 := Tryd.isAgg89
  z127 := Tryd.sizeOf89
  v127 := Tryd.zeroValue89 }
theorem Tryd.Builder_Extra_169 : Builder.Extra Tryd.prog Tryd.lays169_ren := {
  sizeBuilder := by kernel_rfl
  liesBuilder := by kernel_rfl
  t5 := Tryd.underlying5
  a5 := Tryd.isAgg5
  z5 := Tryd.sizeOf5
  v5 := Tryd.zeroValue5
  infoByte := by kernel_rfl
  cellsByte := by kernel_rfl
  sizeByte := by kernel_rfl
  neB5 := by decide }
open Go.RowKit in
open Go.RowKit in
open Go.RowKit in
theorem Tryd.Builder_String_any (B b : Nat) (l : List UInt8) (w : World) (h : Lib.IsBuilder 64 5 B b (Lib.byteCells l) w) (hBw : B ≤ w.heap.size) :
    Calls Tryd.prog 44 #[.pointer (some ⟨b, 0, none⟩)] w fun e w' => e = .returned (.string ⟨l.toArray⟩) ∧ Below B w w' := Any.Builder_String_any Tryd.lays169 Tryd.Builder_Extra_169 B b l w h hBw
def Tryd.lays137_ren : Go.Shelf.Ren := ⟨fun | 137 => 84 | 217 => 93 | 266 => 101 | n => n, fun | 9 => 9 | 5 => 5 | 3 => 3 | n => n, fun | n => n⟩
theorem Tryd.lays137 : Go.Proofs.Lays.n137 Tryd.prog Tryd.lays137_ren := {
  mixed := by kernel_rfl
  f137 := Tryd.func84.trans (congrArg some (by kernel_rfl))
  f217 := Tryd.func93.trans (congrArg some (by kernel_rfl))
  f266 := Tryd.func101.trans (congrArg some (by kernel_rfl))
  t3 := Tryd.underlying3
  a3 := Tryd.isAgg3
  z3 := Tryd.sizeOf3
  v3 := Tryd.zeroValue3
  t5 := Tryd.underlying5
  a5 := Tryd.isAgg5
  z5 := Tryd.sizeOf5
  v5 := Tryd.zeroValue5
  t9 := Tryd.underlying9
  a9 := Tryd.isAgg9
  z9 := Tryd.sizeOf9
  v9 := Tryd.zeroValue9 }
open Go.RowKit in
theorem Tryd.strings_IndexByte (s : ByteArray) (c : Int) (w : World) :
    Calls Tryd.prog 84 #[.string s, .int .u8 c] w fun e w' => e = .returned (.int .i64 (Lib.indexByte s.data.toList c.toNat.toUInt8)) ∧ w' = w := Any.strings_IndexByte Tryd.lays137 s c w
def Tryd.laysM171_ren : Go.Shelf.Ren := ⟨fun | 171 => 43 | 243 => 70 | 246 => 87 | 283 => 94 | 284 => 95 | 285 => 96 | 286 => 97 | 129 => 103 | 317 => 102 | 318 => 104 | 319 => 105 | 320 => 106 | 337 => 110 | 338 => 111 | n => n, fun | 3 => 3 | 9 => 9 | 2 => 2 | 4 => 4 | 171 => 111 | 0 => 0 | 53 => 54 | 37 => 56 | 5 => 5 | 173 => 114 | 212 => 118 | 51 => 119 | 20 => 20 | 213 => 120 | 46 => 57 | 232 => 130 | 233 => 131 | n => n, fun | 17 => 0 | 18 => 4 | 19 => 5 | n => n⟩
theorem Tryd.laysM171 : Go.Proofs.LaysM.n171 Tryd.prog Tryd.laysM171_ren := {
  mixed := by kernel_rfl
  f129 := Tryd.func103.trans (congrArg some (by kernel_rfl))
  f171 := Tryd.func43.trans (congrArg some (by kernel_rfl))
  f243 := Tryd.func70.trans (congrArg some (by kernel_rfl))
  f246 := Tryd.func87.trans (congrArg some (by kernel_rfl))
  f283 := Tryd.func94.trans (congrArg some (by kernel_rfl))
  f284 := Tryd.func95.trans (congrArg some (by kernel_rfl))
  f285 := Tryd.func96.trans (congrArg some (by kernel_rfl))
  f286 := Tryd.func97.trans (congrArg some (by kernel_rfl))
  f317 := Tryd.func102.trans (congrArg some (by kernel_rfl))
  f318 := Tryd.func104.trans (congrArg some (by kernel_rfl))
  f319 := Tryd.func105.trans (congrArg some (by kernel_rfl))
  f320 := Tryd.func106.trans (congrArg some (by kernel_rfl))
  f337 := Tryd.func110.trans (congrArg some (by kernel_rfl))
  f338 := Tryd.func111.trans (congrArg some (by kernel_rfl))
  t0 := Tryd.underlying0
  a0 := Tryd.isAgg0
  z0 := Tryd.sizeOf0
  v0 := Tryd.zeroValue0
  t2 := Tryd.underlying2
  a2 := Tryd.isAgg2
  z2 := Tryd.sizeOf2
  v2 := Tryd.zeroValue2
  t3 := Tryd.underlying3
  a3 := Tryd.isAgg3
  z3 := Tryd.sizeOf3
  v3 := Tryd.zeroValue3
  t4 := Tryd.underlying4
  a4 := Tryd.isAgg4
  z4 := Tryd.sizeOf4
  v4 := Tryd.zeroValue4
  t5 := Tryd.underlying5
  a5 := Tryd.isAgg5
  z5 := Tryd.sizeOf5
  v5 := Tryd.zeroValue5
  t9 := Tryd.underlying9
  a9 := Tryd.isAgg9
  z9 := Tryd.sizeOf9
  v9 := Tryd.zeroValue9
  t20 := Tryd.underlying20
  a20 := Tryd.isAgg20
  z20 := Tryd.sizeOf20
  v20 := Tryd.zeroValue20
  t37 := Tryd.underlying56
  a37 := Tryd.isAgg56
  z37 := Tryd.sizeOf56
  v37 := Tryd.zeroValue56
  t46 := Tryd.underlying57
  a46 := Tryd.isAgg57
  z46 := Tryd.sizeOf57
  v46 := Tryd.zeroValue57
  t51 := Tryd.underlying119
  a51 := Tryd.isAgg119
  z51 := Tryd.sizeOf119
  v51 := Tryd.zeroValue119
  t53 := Tryd.underlying54
  a53 := Tryd.isAgg54
  z53 := Tryd.sizeOf54
  v53 := Tryd.zeroValue54
  t171 := Tryd.underlying111
  a171 := Tryd.isAgg111
  z171 := Tryd.sizeOf111
  v171 := Tryd.zeroValue111
  t173 := Tryd.underlying114
  a173 := Tryd.isAgg114
  z173 := Tryd.sizeOf114
  v173 := Tryd.zeroValue114
  t212 := Tryd.underlying118
  a212 := Tryd.isAgg118
  z212 := Tryd.sizeOf118
  v212 := Tryd.zeroValue118
  t213 := Tryd.underlying120
  a213 := Tryd.isAgg120
  z213 := Tryd.sizeOf120
  t232 := Tryd.underlying130
  a232 := Tryd.isAgg130
  z232 := Tryd.sizeOf130
  v232 := Tryd.zeroValue130
  t233 := Tryd.underlying131
  a233 := Tryd.isAgg131
  z233 := Tryd.sizeOf131
  v233 := Tryd.zeroValue131
  g17 := by kernel_rfl
  g18 := by kernel_rfl
  g19 := by kernel_rfl
  i0 := by kernel_rfl
  i2 := by kernel_rfl
  i3 := by kernel_rfl
  i4 := by kernel_rfl
  i5 := by kernel_rfl
  i9 := by kernel_rfl
  i20 := by kernel_rfl
  i37 := by kernel_rfl
  i46 := by kernel_rfl
  i51 := by kernel_rfl
  i53 := by kernel_rfl
  i171 := by kernel_rfl
  i173 := by kernel_rfl
  i212 := by kernel_rfl
  i232 := by kernel_rfl
  i233 := by kernel_rfl
  m17 := by kernel_rfl
  m18 := by kernel_rfl
  m19 := by kernel_rfl }
open Go.RowKit Go.Sort Go.Lib in
theorem Tryd.strconv_Itoa (n : Int) (h0 : -9223372036854775808 ≤ n) (h1 : n ≤ 9223372036854775807) (w : World) (htab : Lib.TabIs Tryd.prog w "internal/strconv.uint64pow10" .u64 Lib.pow10Tab) :
    Calls Tryd.prog 43 #[.int .i64 n] w fun e w' => e = .returned (.string ⟨(Lib.itoa n).toArray⟩) ∧ ∃ k os, w' = grow (w.drewN k) os := Any.strconv_Itoa Tryd.laysM171 n h0 h1 w htab
def Tryd.lays264_ren : Go.Shelf.Ren := ⟨fun | 264 => 68 | n => n, fun | 53 => 54 | 46 => 57 | n => n, fun | n => n⟩
theorem Tryd.lays264 : Go.Proofs.Lays.n264 Tryd.prog Tryd.lays264_ren := {
  mixed := by kernel_rfl
  f264 := Tryd.func68.trans (congrArg some (by kernel_rfl))
  t46 := Tryd.underlying57
  a46 := Tryd.isAgg57
  z46 := Tryd.sizeOf57
  v46 := Tryd.zeroValue57
  t53 := Tryd.underlying54
  a53 := Tryd.isAgg54
  z53 := Tryd.sizeOf54
  v53 := Tryd.zeroValue54 }
open Go.RowKit Go.Lib in
theorem Tryd.bits_Mul64 (x y : Nat) (hx : x < 18446744073709551616) (hy : y < 18446744073709551616) (w : World) :
    Calls Tryd.prog 68 #[.int .u64 x, .int .u64 y] w fun e w' => e = .returned (.tuple #[.int .u64 ((x * y / 18446744073709551616 : Nat) : Int), .int .u64 ((x * y % 18446744073709551616 : Nat) : Int)]) ∧ w' = w := Any.bits_Mul64 Tryd.lays264 x y hx hy w
def Tryd.lays160_ren : Go.Shelf.Ren := ⟨fun | 160 => 45 | 232 => 72 | 231 => 71 | 227 => 73 | 234 => 75 | 233 => 74 | 236 => 77 | 235 => 76 | 228 => 88 | 271 => 91 | 151 => 90 | 197 => 89 | 120 => 100 | 152 => 99 | 260 => 98 | 137 => 84 | 119 => 107 | 224 => 108 | 225 => 109 | 217 => 93 | 266 => 101 | n => n, fun | 9 => 9 | 4 => 4 | 3 => 3 | 5 => 5 | 117 => 93 | 116 => 92 | 0 => 0 | 124 => 96 | 21 => 21 | 105 => 108 | 46 => 57 | 119 => 123 | 139 => 126 | 138 => 125 | n => n, fun | 3 => 1 | 4 => 2 | n => n⟩
theorem Tryd.lays160 : Go.Proofs.Lays.n160 Tryd.prog Tryd.lays160_ren := {
  mixed := by kernel_rfl
  f119 := Tryd.func107.trans (congrArg some (by kernel_rfl))
  f120 := Tryd.func100.trans (congrArg some (by kernel_rfl))
  f137 := Tryd.func84.trans (congrArg some (by kernel_rfl))
  f151 := Tryd.func90.trans (congrArg some (by kernel_rfl))
  f152 := Tryd.func99.trans (congrArg some (by kernel_rfl))
  f160 := Tryd.func45.trans (congrArg some (by kernel_rfl))
  f197 := Tryd.func89.trans (congrArg some (by kernel_rfl))
  f217 := Tryd.func93.trans (congrArg some (by kernel_rfl))
  f224 := Tryd.func108.trans (congrArg some (by kernel_rfl))
  f225 := Tryd.func109.trans (congrArg some (by kernel_rfl))
  f227 := Tryd.func73.trans (congrArg some (by kernel_rfl))
  f228 := Tryd.func88.trans (congrArg some (by kernel_rfl))
  f231 := Tryd.func71.trans (congrArg some (by kernel_rfl))
  f232 := Tryd.func72.trans (congrArg some (by kernel_rfl))
  f233 := Tryd.func74.trans (congrArg some (by kernel_rfl))
  f234 := Tryd.func75.trans (congrArg some (by kernel_rfl))
  f235 := Tryd.func76.trans (congrArg some (by kernel_rfl))
  f236 := Tryd.func77.trans (congrArg some (by kernel_rfl))
  f260 := Tryd.func98.trans (congrArg some (by kernel_rfl))
  f266 := Tryd.func101.trans (congrArg some (by kernel_rfl))
  f271 := Tryd.func91.trans (congrArg some (by kernel_rfl))
  t0 := Tryd.underlying0
  a0 := Tryd.isAgg0
  z0 := Tryd.sizeOf0
  v0 := Tryd.zeroValue0
  t3 := Tryd.underlying3
  a3 := Tryd.isAgg3
  z3 := Tryd.sizeOf3
  v3 := Tryd.zeroValue3
  t4 := Tryd.underlying4
  a4 := Tryd.isAgg4
  z4 := Tryd.sizeOf4
  v4 := Tryd.zeroValue4
  t5 := Tryd.underlying5
  a5 := Tryd.isAgg5
  z5 := Tryd.sizeOf5
  v5 := Tryd.zeroValue5
  t9 := Tryd.underlying9
  a9 := Tryd.isAgg9
  z9 := Tryd.sizeOf9
  v9 := Tryd.zeroValue9
  t21 := Tryd.underlying21
  a21 := Tryd.isAgg21
  z21 := Tryd.sizeOf21
  v21 := Tryd.zeroValue21
  t46 := Tryd.underlying57
  a46 := Tryd.isAgg57
  z46 := Tryd.sizeOf57
  v46 := Tryd.zeroValue57
  t105 := Tryd.underlying108
  a105 := Tryd.isAgg108
  z105 := Tryd.sizeOf108
  v105 := Tryd.zeroValue108
  t116 := Tryd.underlying92
  a116 := Tryd.isAgg92
  z116 := Tryd.sizeOf92
  t117 := Tryd.underlying93
  a117 := Tryd.isAgg93
  z117 := Tryd.sizeOf93
  v117 := Tryd.zeroValue93
  t119 := Tryd.underlying123
  a119 := Tryd.isAgg123
  z119 := Tryd.sizeOf123
  t124 := Tryd.underlying96
  a124 := Tryd.isAgg96
  z124 := Tryd.sizeOf96
  v124 := Tryd.zeroValue96
  t138 := Tryd.underlying125
  a138 := Tryd.isAgg125
  z138 := Tryd.sizeOf125
  v138 := Tryd.zeroValue125
  t139 := Tryd.underlying126
  a139 := Tryd.isAgg126
  z139 := Tryd.sizeOf126
  v139 := Tryd.zeroValue126
  g3 := by kernel_rfl
  g4 := by kernel_rfl }
def Tryd.lays166_ren : Go.Shelf.Ren := ⟨fun | 166 => 42 | 240 => 69 | 276 => 86 | n => n, fun | 0 => 0 | 3 => 3 | 4 => 4 | 5 => 5 | 9 => 9 | 20 => 20 | 37 => 56 | 70 => 62 | 72 => 64 | 75 => 66 | 80 => 70 | 164 => 104 | n => n, fun  | n => n⟩
theorem Tryd.lays166 : Go.Proofs.Lays.n166 Tryd.prog Tryd.lays166_ren := {
  mixed := by kernel_rfl
  f166 := Tryd.func42.trans (congrArg some (by kernel_rfl))
  f240 := Tryd.func69.trans (congrArg some (by kernel_rfl))
  f276 := Tryd.func86.trans (congrArg some (by kernel_rfl))
  t0 := Tryd.underlying0
  a0 := Tryd.isAgg0
  z0 := Tryd.sizeOf0
  v0 := Tryd.zeroValue0
  t3 := Tryd.underlying3
  a3 := Tryd.isAgg3
  z3 := Tryd.sizeOf3
  v3 := Tryd.zeroValue3
  t4 := Tryd.underlying4
  a4 := Tryd.isAgg4
  z4 := Tryd.sizeOf4
  v4 := Tryd.zeroValue4
  t9 := Tryd.underlying9
  a9 := Tryd.isAgg9
  z9 := Tryd.sizeOf9
  v9 := Tryd.zeroValue9
  t20 := Tryd.underlying20
  a20 := Tryd.isAgg20
  z20 := Tryd.sizeOf20
  v20 := Tryd.zeroValue20
  t37 := Tryd.underlying56
  a37 := Tryd.isAgg56
  z37 := Tryd.sizeOf56
  v37 := Tryd.zeroValue56
  t70 := Tryd.underlying62
  a70 := Tryd.isAgg62
  z70 := Tryd.sizeOf62
  v70 := Tryd.zeroValue62
  t72 := Tryd.underlying64
  a72 := Tryd.isAgg64
  z72 := Tryd.sizeOf64
  v72 := Tryd.zeroValue64
  t75 := Tryd.underlying66
  a75 := Tryd.isAgg66
  z75 := Tryd.sizeOf66
  v75 := Tryd.zeroValue66
  t164 := Tryd.underlying104
  a164 := Tryd.isAgg104
  z164 := Tryd.sizeOf104
  v164 := Tryd.zeroValue104
}
theorem Tryd.Builder_Extra_166 : Builder.Extra Tryd.prog Tryd.lays166_ren := {
  sizeBuilder := by kernel_rfl
  liesBuilder := by kernel_rfl
  t5 := Tryd.underlying5
  a5 := Tryd.isAgg5
  z5 := Tryd.sizeOf5
  v5 := Tryd.zeroValue5
  infoByte := by kernel_rfl
  cellsByte := by kernel_rfl
  sizeByte := by kernel_rfl
  neB5 := by decide
}
open Go.RowKit in
theorem Tryd.Builder_WriteString (B b : Nat) (bs : List Value) (s : ByteArray) (w : World) (h : Lib.IsBuilder 64 5 B b bs w) (hlen : bs.length + s.size ≤ 140737488355328) (hBw : B ≤ w.heap.size) :
    Calls Tryd.prog 42 #[.pointer (some ⟨b, 0, none⟩), .string s] w fun e w' => e = .returned (.tuple #[.int .i64 s.size, .nilIface]) ∧ (Lib.BuilderAt 64 5 B b (.pointer (some ⟨b, 0, none⟩)) (bs ++ Lib.strCells s) w' ∧ Below B w w') := Any.Builder_WriteString Tryd.lays166 Tryd.Builder_Extra_166 B b bs s w h hlen hBw
open Go.RowKit in
theorem Tryd.strings_Trim_set (s cutset : ByteArray) (w : World) (hs : s.size ≤ 9223372036854775807) (hcs : cutset.size < 4294967281)
    (hascii : ∀ (j : Nat) b, cutset.data.toList[j]? = some b → b.toNat < 128) :
    Calls Tryd.prog 45 #[.string s, .string cutset] w fun e w' => e = .returned (.string ⟨(Lib.trimS s.data.toList cutset.data.toList).toArray⟩) ∧ Below w.heap.size w w' := Any.strings_Trim_laid Tryd.lays160 (by kernel_rfl) s cutset w hs hcs hascii
end Go.Proofs
end
section
set_option linter.unusedVariables false
set_option linter.unusedSimpArgs false
namespace Go.Dig
def mix (x : UInt64) : UInt64 :=
  let a := x * 2862933555777941757
  let b := a ^^^ (a >>> 32)
  let c := b * 3935559000370003845
  c ^^^ (c >>> 29)
def pre (l : List UInt8) : Nat → Nat
  | 0 => 0
  | i + 1 => pre l i * 256 + (l.getD i 0).toNat
theorem pre_lt (l : List UInt8) (i : Nat) : pre l i < 256 ^ i := by
  induction i with
  | zero => simp [pre]
  | succ i ih =>
    have := (l.getD i 0).toNat_lt
    rw [pre, Nat.pow_succ]; omega
theorem pre_congr {l m : List UInt8} : ∀ {i : Nat}, (∀ j, j < i → l.getD j 0 = m.getD j 0) → pre l i = pre m i
  | 0, _ => rfl
  | i + 1, h => by rw [pre, pre, pre_congr (i := i) (fun j hj => h j (by omega)), h i (by omega)]
def block (l : List UInt8) : UInt64 := UInt64.ofNat (pre l 8)
theorem block_toNat (l : List UInt8) : (block l).toNat = pre l 8 := by
  have := pre_lt l 8
  unfold block; rw [UInt64.toNat_ofNat']; omega
def steps (s : UInt64) (l : List UInt8) : UInt64 :=
  if h : l.length < 8 then mix (s ^^^ block l) else steps (mix (s ^^^ block l)) (l.drop 8)
termination_by l.length
decreasing_by simp; omega
theorem steps_short {s : UInt64} {l : List UInt8} (h : l.length < 8) : steps s l = mix (s ^^^ block l) := by rw [steps, dif_pos h]
theorem steps_long {s : UInt64} {l : List UInt8} (h : 8 ≤ l.length) : steps s l = steps (mix (s ^^^ block l)) (l.drop 8) := by rw [steps, dif_neg (by omega)]
def start (n : Nat) : UInt64 := 1181783497276652981 ^^^ UInt64.ofNat n
def hexd (n : Nat) : UInt8 := if n < 10 then UInt8.ofNat (48 + n) else UInt8.ofNat (87 + n)
def hex (n : Nat) : List UInt8 := (List.range 16).map fun i => hexd (n / 2 ^ (60 - 4 * i) % 16)
theorem hex_len (n : Nat) : (hex n).length = 16 := by simp [hex]
def sum (l : List UInt8) : List UInt8 := hex (steps (start l.length) l).toNat
theorem sum_len (l : List UInt8) : (sum l).length = 16 := hex_len _
end Go.Dig
end
section
set_option linter.unusedVariables false
set_option linter.unusedSimpArgs false
namespace Go.Proofs.YteleheamnighkaaDoor
open Go.RowKit Go.DoorKit
theorem ofInt_u (x : UInt64) : BitVec.ofInt 64 (x.toNat : Int) = x.toBitVec := by
  rw [BitVec.ofInt_natCast]; exact BitVec.ofNat_toNat ..
theorem xor_u (x y : UInt64) : bits .xor .u64 (x.toNat : Int) (y.toNat : Int) = ((x ^^^ y).toNat : Int) := by
  have h := (x ^^^ y).toNat_lt
  show IntKind.u64.wrap (((BitVec.ofInt 64 (x.toNat : Int)) ^^^ (BitVec.ofInt 64 (y.toNat : Int))).toNat : Int) = _
  rw [ofInt_u, ofInt_u, ← UInt64.toBitVec_xor]
  show IntKind.u64.wrap ((x ^^^ y).toNat : Int) = _
  rw [show IntKind.u64.wrap ((x ^^^ y).toNat : Int) = ((x ^^^ y).toNat : Int) % 18446744073709551616 by simp [IntKind.wrap, IntKind.bits, IntKind.signed]]
  omega
theorem shr_u32 (x : UInt64) : ((x.toNat : Int) / (4294967296 : Int)) = ((x >>> 32).toNat : Int) := by
  rw [UInt64.toNat_shiftRight, Nat.shiftRight_eq_div_pow]; rfl
theorem shr_u29 (x : UInt64) : ((x.toNat : Int) / (536870912 : Int)) = ((x >>> 29).toNat : Int) := by
  rw [UInt64.toNat_shiftRight, Nat.shiftRight_eq_div_pow]; rfl
theorem mul_any (z y : Int) (x c : UInt64) (hz : z = x.toNat) (hy : y = c.toNat) (w : World) :
    Calls Tryd.prog 68 #[.int .u64 z, .int .u64 y] w fun e w' => (∃ (hi : Int) (v : UInt64), Hid (v = x * c) ∧ e = .returned (.tuple #[.int .u64 hi, .int .u64 (v.toNat : Int)])) ∧ w' = w := by
  subst hz hy
  refine (Tryd.bits_Mul64 x.toNat c.toNat x.toNat_lt c.toNat_lt w).mono ?_
  rintro e w' ⟨rfl, rfl⟩
  exact ⟨⟨_, _, Lib.hid rfl, by rw [UInt64.toNat_mul]⟩, rfl⟩
theorem xs32 (x : UInt64) : bits .xor .u64 (x.toNat : Int) ((x.toNat : Int) / (4294967296 : Int)) = ((x ^^^ (x >>> 32)).toNat : Int) := by rw [shr_u32, xor_u]
theorem xs29 (x : UInt64) : bits .xor .u64 (x.toNat : Int) ((x.toNat : Int) / (536870912 : Int)) = ((x ^^^ (x >>> 29)).toNat : Int) := by rw [shr_u29, xor_u]
set_option maxHeartbeats 400000 in
theorem mix_calls (x : UInt64) (w : World) :
    Calls Tryd.prog 39 #[.int .u64 x.toNat] w fun e w' => e = .returned (.int .u64 (Dig.mix x).toNat) ∧ w' = w := by
  have hx : (0 : Int) ≤ x.toNat := by omega
  go_enter Tryd.func39, Tryd.ntmps39
  go_wp2_with fail
  refine (mul_any _ _ x 2862933555777941757 rfl rfl _).mono ?_
  rintro e w' ⟨⟨hi, v, hv, rfl⟩, rfl⟩
  go_wp2_with fail
  refine (mul_any _ _ (v ^^^ (v >>> 32)) 3935559000370003845 (xs32 v) rfl _).mono ?_
  rintro e w' ⟨⟨hi2, u, hu, rfl⟩, rfl⟩
  go_wp2_with fail
  go_ret
  exact ⟨by rw [xs29, hu.out, hv.out]; rfl, rfl⟩
end Go.Proofs.YteleheamnighkaaDoor
end
section
set_option linter.unusedVariables false
set_option linter.unusedSimpArgs false
namespace Go.Proofs.YteleheamnighkaaDoor
open Go.RowKit Go.DoorKit
theorem Tryd.info5 : (Tryd.prog.info? 5).isSome = true := by kernel_rfl
def blkL (l : List UInt8) : List Value := (List.range 8).map fun i => .int .u8 (l.getD i 0).toNat
theorem blk_copy (s : ByteArray) (hs : s.size ≤ 8) : (s.data.toList.map fun b => Value.int .u8 b.toNat) ++ (#[Value.int .u8 0, .int .u8 0, .int .u8 0, .int .u8 0, .int .u8 0, .int .u8 0, .int .u8 0, .int .u8 0] : Array Value).toList.drop s.size = blkL s.data.toList := by
  have hl : s.data.toList.length = s.size := by simp
  have hz : (#[Value.int .u8 0, .int .u8 0, .int .u8 0, .int .u8 0, .int .u8 0, .int .u8 0, .int .u8 0, .int .u8 0] : Array Value).toList = List.replicate 8 (.int .u8 0) := rfl
  rw [hz, List.drop_replicate]
  apply List.ext_getElem
  · simp [blkL]; omega
  · intro i h1 h2
    simp only [blkL, List.length_map, List.length_range] at h2
    rw [List.getElem_append]
    simp only [blkL, List.getElem_map, List.getElem_range, List.length_map, hl]
    split
    · rename_i h
      simp [List.getD, List.getElem?_eq_getElem (show i < s.data.toList.length by omega)]
    · rename_i h
      simp [List.getD, List.getElem?_eq_none (show s.data.toList.length ≤ i by omega)]
theorem blkL_at (l : List UInt8) (i : Nat) (hi : i < 8) : (blkL l).toArray[i]? = some (.int .u8 ((l.getD i 0).toNat : Int)) := by
  simp only [blkL, List.getElem?_toArray, List.getElem?_map]
  rw [List.getElem?_range hi]; rfl
theorem wrap_u64 (z : Int) : IntKind.u64.wrap z = z % 18446744073709551616 := by simp [IntKind.wrap, IntKind.bits, IntKind.signed]
theorem or_u64 (n c : Nat) (hn : n < 72057594037927936) (hc : c < 256) : bits .or .u64 (IntKind.u64.wrap ((n : Int) * 256)) (IntKind.u64.wrap (c : Int)) = ((n * 256 + c : Nat) : Int) := by
  have h1 : IntKind.u64.wrap ((n : Int) * 256) = ((n * 256 : Nat) : Int) := by rw [wrap_u64]; omega
  have h2 : IntKind.u64.wrap (c : Int) = (c : Int) := by rw [wrap_u64]; omega
  have e1 : (BitVec.ofInt 64 ((n * 256 : Nat) : Int)).toNat = n * 256 := by rw [BitVec.ofInt_natCast, BitVec.toNat_ofNat, Nat.mod_eq_of_lt (by omega)]
  have e2 : (BitVec.ofInt 64 (c : Int)).toNat = c := by rw [BitVec.ofInt_natCast, BitVec.toNat_ofNat, Nat.mod_eq_of_lt (by omega)]
  rw [h1, h2]
  show IntKind.u64.wrap (((BitVec.ofInt 64 ((n * 256 : Nat) : Int)) ||| (BitVec.ofInt 64 (c : Int))).toNat : Int) = _
  rw [BitVec.toNat_or, e1, e2, Nat.mul_comm n 256, show 256 = 2 ^ 8 from rfl, ← Nat.two_pow_add_eq_or_of_lt (by omega) n, wrap_u64]
  omega
theorem mix_any (z : Int) (x : UInt64) (hz : z = x.toNat) (w : World) :
    Calls Tryd.prog 39 #[.int .u64 z] w fun e w' => e = .returned (.int .u64 (Dig.mix x).toNat) ∧ w = w' := by
  subst hz
  exact (mix_calls x w).mono fun e w' h => ⟨h.1, h.2.symm⟩
set_option maxRecDepth 100000 in
set_option maxHeartbeats 400000 in
theorem take_calls (b : Nat) (x : UInt64) (s : ByteArray) (hs : s.size ≤ 8) (w : World) (hb : w.cell? ⟨b, 0, none⟩ = some (.int .u64 x.toNat)) (hf : w.frozen? ⟨b, 0, none⟩ = false) (hlt : b < w.heap.size) :
    Calls Tryd.prog 38 #[.string s, .pointer (some ⟨b, 0, none⟩)] w fun e w' => e = .returned (.tuple #[]) ∧ ∃ o, w' = (w.setCell ⟨b, 0, none⟩ (.int .u64 (Dig.mix (x ^^^ Dig.block s.data.toList)).toNat)).alloc o := by
  obtain ⟨inf, hi⟩ := Option.isSome_iff_exists.1 Tryd.info5
  have HR := Lib.hid (fun ty => run_copy_part (P := Tryd.prog) (w.alloc (.cells #[.int .u8 0, .int .u8 0, .int .u8 0, .int .u8 0, .int .u8 0, .int .u8 0, .int .u8 0, .int .u8 0] 55)) (t := 56) (t2 := 9) (ty := ty) Tryd.underlying56 hi w.heap.size 8 8 _ s bk_alloc_new rfl hs)
  rw [blk_copy s hs, setBk_alloc_new] at HR
  obtain ⟨arr, harr⟩ : ∃ arr, arr = (blkL s.data.toList).toArray := ⟨_, rfl⟩
  rw [← harr] at HR
  have HA := Lib.hid harr
  clear harr hi
  have hcp := HR.out
  clear HR
  go_enter Tryd.func38, Tryd.ntmps38
  go_wp2
  clear hcp
  go_loop [4, 5, 9] (fun v4 v5 v9 => ∃ i : Nat, i ≤ 8 ∧ v4 = .int .u64 (Dig.pre s.data.toList i : Nat) ∧ v9 = .int .i64 i) (fun _ _ v9 => 8 - (intOf v9).toNat)
  case atStart => exact ⟨0, by omega, rfl, rfl⟩
  case round =>
    obtain ⟨i, hi8, rfl, rfl⟩ := hrel
    by_cases hlt8 : i < 8
    · have hc : (w.alloc (Obj.cells arr 55)).cell? ⟨w.heap.size, i, none⟩ = some (.int .u8 ((s.data.toList.getD i 0).toNat : Int)) := by
        rw [cell?_bk bk_alloc_new, HA.out]; exact blkL_at _ _ hlt8
      have hp := Dig.pre_lt s.data.toList i
      have hp2 : 256 ^ i ≤ 256 ^ 7 := Nat.pow_le_pow_right (by decide) (by omega)
      have hp3 := Lib.hid (show Dig.pre s.data.toList i < 72057594037927936 by omega)
      have hs1 : Hid (Dig.pre s.data.toList (i + 1) = Dig.pre s.data.toList i * 256 + (s.data.toList.getD i 0).toNat) := Lib.hid rfl
      generalize Dig.pre s.data.toList i = n at *
      have hd := Lib.hid (s.data.toList.getD i 0).toNat_lt
      generalize (s.data.toList.getD i 0).toNat = c at *
      clear hp hp2
      go_wp2
      go_round
      case rel => exact ⟨i + 1, by omega, by rw [hs1.out, or_u64 n c hp3.out hd.out], by go_num⟩
      case measure => simp [intOf]; omega
    · obtain rfl : i = 8 := by omega
      rw [← Dig.block_toNat]
      go_wp2_with (go_at_call 39; refine (mix_any _ (x ^^^ Dig.block s.data.toList) (xor_u _ _) _).mono ?_; rintro e w' ⟨rfl, rfl⟩)
      go_end0
      exact ⟨rfl, _, rfl⟩
end Go.Proofs.YteleheamnighkaaDoor
end
section
set_option linter.unusedVariables false
set_option linter.unusedSimpArgs false
namespace Go.Proofs.YteleheamnighkaaDoor
open Go.RowKit Go.DoorKit
def digA (i : Nat) : Array Value := ((List.range 16).map fun j => if j < i then Value.int .u8 ((Dig.hexd j).toNat : Int) else .int .u8 0).toArray
theorem digA_zero : (#[.int .u8 0, .int .u8 0, .int .u8 0, .int .u8 0, .int .u8 0, .int .u8 0, .int .u8 0, .int .u8 0, .int .u8 0, .int .u8 0, .int .u8 0, .int .u8 0, .int .u8 0, .int .u8 0, .int .u8 0, .int .u8 0] : Array Value) = digA 0 := rfl
theorem digA_get (i : Nat) (hi : i < 16) : (digA i)[i]? = some (.int .u8 0) := by
  simp only [digA, List.getElem?_toArray, List.getElem?_map]
  rw [List.getElem?_range hi]; simp
theorem digA_size (i : Nat) : (digA i).size = 16 := by simp [digA]
theorem set_get {a : Array Value} {i : Nat} (hi : i < a.size) (x : Value) : (a.setIfInBounds i x)[i]? = some x := by simp [hi]
theorem hexd_lo {i : Nat} (h : i < 10) : ((Dig.hexd i).toNat : Int) = 48 + (i : Int) := by
  unfold Dig.hexd; rw [if_pos h, UInt8.toNat_ofNat']; omega
theorem hexd_hi {i : Nat} (h : 10 ≤ i) (h2 : i < 16) : ((Dig.hexd i).toNat : Int) = 97 + (i : Int) - 10 := by
  unfold Dig.hexd; rw [if_neg (by omega), UInt8.toNat_ofNat']; omega
theorem digA_succ (i : Nat) (x : Int) (h : x = ((Dig.hexd i).toNat : Int)) : (digA i).setIfInBounds i (.int .u8 x) = digA (i + 1) := by
  subst h
  apply Array.ext
  · simp [digA]
  · intro k h1 h2
    rw [Array.getElem_setIfInBounds (by simpa using h1)]
    simp only [digA, List.getElem_toArray, List.getElem_map, List.getElem_range]
    by_cases h : i = k
    · subst h; rw [if_pos rfl, if_pos (by omega)]
    · rw [if_neg h]
      by_cases h3 : k < i
      · rw [if_pos h3, if_pos (by omega)]
      · rw [if_neg h3, if_neg (by omega)]
theorem set_set {a : Array Value} {i : Nat} (x y : Value) : (a.setIfInBounds i x).setIfInBounds i y = a.setIfInBounds i y := by simp
theorem digA_16 : digA 16 = #[.int .u8 48, .int .u8 49, .int .u8 50, .int .u8 51, .int .u8 52, .int .u8 53, .int .u8 54, .int .u8 55, .int .u8 56, .int .u8 57, .int .u8 97, .int .u8 98, .int .u8 99, .int .u8 100, .int .u8 101, .int .u8 102] := rfl
set_option maxRecDepth 100000 in
set_option maxHeartbeats 400000 in
theorem digits_calls (w : World) :
    Calls Tryd.prog 40 #[] w fun e w' => e = .returned (.agg (digA 16)) ∧ Below w.heap.size w w' := by
  go_enter Tryd.func40, Tryd.ntmps40
  go_wp2
  go_loopw [2, 3] (fun v2 v3 wr => ∃ i : Nat, i ≤ 16 ∧ v3 = .int .i64 i ∧ wr = (w.alloc (.cells (digA 0) 60)).alloc (.cells (digA i) 60)) (fun _ v3 _ => 16 - (intOf v3).toNat)
  case atStart => exact ⟨0, by omega, rfl, rfl⟩
  case round =>
    obtain ⟨i, hi, rfl, rfl⟩ := hrel
    by_cases hlt : i < 16
    · have hg := digA_get i hlt
      have hs := fun x => set_get (a := digA i) (i := i) (by rw [digA_size]; exact hlt) x
      have hss := fun x y => set_set (a := digA i) (i := i) x y
      by_cases h10 : 10 ≤ i
      · have hx := Lib.hid (digA_succ i _ (hexd_hi h10 hlt).symm)
        go_wp2
        go_roundw
        case rel => exact ⟨i + 1, by omega, by go_num, by rw [hx.out]⟩
        case measure => simp [intOf]; omega
      · have hx := Lib.hid (digA_succ i _ (hexd_lo (by omega)).symm)
        go_wp2
        go_roundw
        case rel => exact ⟨i + 1, by omega, by go_num, by rw [hx.out]⟩
        case measure => simp [intOf]; omega
    · obtain rfl : i = 16 := by omega
      rw [digA_16, ← digA_zero]
      go_wp2

      exact bodyPost_ret (v := .agg (digA 16)) (by rw [digA_16]; simp [results, Tryd.results40, go_sem]) rfl ⟨rfl, ((Below.refl _ _).alloc (Nat.le_refl _) _).alloc (by simp) _⟩
end Go.Proofs.YteleheamnighkaaDoor
end
section
set_option linter.unusedVariables false
set_option linter.unusedSimpArgs false
namespace Go.Proofs.YteleheamnighkaaDoor
open Go.RowKit Go.DoorKit
theorem ext_drop (s : ByteArray) : (s.extract 8 s.size).data.toList = s.data.toList.drop 8 := by
  rw [ByteArray.data_extract]; simp
  exact List.take_of_length_le (by simp)
theorem block_take (l : List UInt8) : Dig.block (l.take 8) = Dig.block l := by
  unfold Dig.block
  rw [Dig.pre_congr]
  intro j hj
  simp [List.getD, List.getElem?_take, hj]
def strLen : Value → Nat
  | .string t => t.size
  | _ => 0
theorem start_bits (s : ByteArray) (hs : s.size ≤ 9223372036854775807) : bits .xor .u64 1181783497276652981 (s.size : Int) = ((Dig.start s.size).toNat : Int) := by
  have h : ((UInt64.ofNat s.data.toList.length).toNat : Int) = (s.size : Int) := by
    rw [UInt64.toNat_ofNat', show s.data.toList.length = s.size by simp, Nat.mod_eq_of_lt (by omega)]
  have := xor_u 1181783497276652981 (UInt64.ofNat s.data.toList.length)
  rw [h, show ((1181783497276652981 : UInt64).toNat : Int) = 1181783497276652981 from rfl] at this
  rw [this, show s.data.toList.length = s.size by simp]; rfl
theorem store_row (W : World) (a b : Array Value) (T : TypeId) (hs : a.size = b.size) (h1 : ∀ v ∈ b.toList, v.oneCell' = true) :
    (storeCells ⟨W.heap.size, 0, none⟩ b.toList).run Tryd.prog (W.alloc (.cells a T)) = .ok () (W.alloc (.cells b T)) := by
  have hst := run_storeCells_at Tryd.prog W.heap.size 0 T b.toList 0 a (W.alloc (.cells a T)) bk_alloc_new (by rw [Array.length_toList]; omega) h1
  simp only [Nat.add_zero, Nat.zero_add, List.take_zero, List.nil_append, Array.length_toList] at hst
  rw [List.drop_eq_nil_of_le (by rw [Array.length_toList]; omega), List.append_nil] at hst
  rw [hst, setRow_eq bk_alloc_new, setBk_alloc_new]
theorem digA_one : ∀ v ∈ (digA 16).toList, v.oneCell' = true := by
  rw [digA_16]; simp [Value.oneCell']
def outA (y : Nat) (i : Nat) : Array Value := ((List.range 16).map fun j => if j < i then Value.int .u8 ((Dig.hexd (y / 2 ^ (60 - 4 * j) % 16)).toNat : Int) else .int .u8 0).toArray
theorem outA_get (y i : Nat) (hi : i < 16) : (outA y i)[i]? = some (.int .u8 0) := by
  simp only [outA, List.getElem?_toArray, List.getElem?_map]
  rw [List.getElem?_range hi]; simp
theorem outA_size (y i : Nat) : (outA y i).size = 16 := by simp [outA]
theorem outA_succ (y i : Nat) : (outA y i).setIfInBounds i (.int .u8 ((Dig.hexd (y / 2 ^ (60 - 4 * i) % 16)).toNat : Int)) = outA y (i + 1) := by
  apply Array.ext
  · simp [outA]
  · intro k h1 h2
    rw [Array.getElem_setIfInBounds (by simpa using h1)]
    simp only [outA, List.getElem_toArray, List.getElem_map, List.getElem_range]
    by_cases h : i = k
    · subst h; rw [if_pos rfl, if_pos (by omega)]
    · rw [if_neg h]
      by_cases h3 : k < i
      · rw [if_pos h3, if_pos (by omega)]
      · rw [if_neg h3, if_neg (by omega)]
theorem digA_at (d : Nat) (hd : d < 16) : (digA 16)[d]? = some (.int .u8 ((Dig.hexd d).toNat : Int)) := by
  simp only [digA, List.getElem?_toArray, List.getElem?_map]
  rw [List.getElem?_range hd]; simp [hd]
theorem and_15 (y : UInt64) (k : Nat) : bits .and .u64 ((y.toNat : Int) / 2 ^ k) 15 = ((y.toNat / 2 ^ k % 16 : Nat) : Int) := by
  have hy := y.toNat_lt
  have h1 : ((y.toNat : Int) / 2 ^ k) = ((y.toNat / 2 ^ k : Nat) : Int) := by simp
  have h2 : y.toNat / 2 ^ k ≤ y.toNat := Nat.div_le_self _ _
  rw [h1]
  generalize y.toNat / 2 ^ k = z at *
  have e1 : (BitVec.ofInt 64 (z : Int)).toNat = z := by rw [BitVec.ofInt_natCast, BitVec.toNat_ofNat, Nat.mod_eq_of_lt (by omega)]
  show IntKind.u64.wrap (((BitVec.ofInt 64 (z : Int)) &&& (BitVec.ofInt 64 15)).toNat : Int) = _
  rw [BitVec.toNat_and, e1, show (BitVec.ofInt 64 15).toNat = 2 ^ 4 - 1 from rfl, Nat.and_two_pow_sub_one_eq_mod, wrap_u64]
  omega
theorem outA_bytes (y : Nat) : outA y 16 = (Dig.hex y).toArray.map fun b => Value.int .u8 (b.toNat : Int) := by
  apply Array.ext
  · simp [outA, Dig.hex]
  · intro k h1 h2
    simp only [outA, Dig.hex, List.getElem_toArray, List.getElem_map, List.getElem_range, Array.getElem_map]
    rw [if_pos (by rw [outA_size] at h1; exact h1)]
theorem strOf_l (l : List UInt8) : strOfNums (l.map fun x => (x.toNat : Int)) = ⟨l.toArray⟩ := by
  unfold strOfNums
  rw [List.map_map, List.map_congr_left (g := id) (fun x _ => by simp), List.map_id]
theorem conv_row {W : World} {g T n : Nat} {l : List UInt8} (h : bk W g = some (.cells (l.map fun b => Value.int .u8 (b.toNat : Int)).toArray T (0, 0))) (hn : l.length = n) : (convert 56 9 (.slice (some ⟨g, 0, none⟩) n n)).run Tryd.prog W = .ok (.string ⟨l.toArray⟩) W := by
  subst hn
  have := run_convert_bytes_arg (P := Tryd.prog) W 56 5 Tryd.underlying56 Tryd.underlying5 g 0 l.length l.length (l.map fun x => (x.toNat : Int)) (by simp) (fun i hi => by
    rw [cell?_bk h, Nat.zero_add]
    simp [List.getD_eq_getElem?_getD, hi]) 9 Tryd.underlying9
  rw [strOf_l] at this
  exact this
set_option maxRecDepth 100000 in
set_option maxHeartbeats 400000 in
theorem sum_calls (s : ByteArray) (hs : s.size ≤ 9223372036854775807) (w : World) :
    Calls Tryd.prog 17 #[.string s] w fun e w' => e = .returned (.string ⟨(Dig.sum s.data.toList).toArray⟩) ∧ Below w.heap.size w w' := by
  have HS := Lib.hid (start_bits s hs)
  go_enter Tryd.func17, Tryd.ntmps17
  go_wp2_with fail
  rw [HS.out]
  go_loopw [0, 13, 14, 15, 16, 17, 18, 19, 20, 21] (fun v0 _ _ _ _ _ _ _ _ _ wr => ∃ (t : ByteArray) (x : UInt64), v0 = .string t ∧ t.size ≤ s.size ∧ Hid (Dig.steps x t.data.toList = Dig.steps (Dig.start s.size) s.data.toList) ∧
      wr.cell? ⟨w.heap.size, 0, none⟩ = some (.int .u64 x.toNat) ∧ wr.frozen? ⟨w.heap.size, 0, none⟩ = false ∧ w.heap.size < wr.heap.size ∧ Below w.heap.size w wr) (fun v0 _ _ _ _ _ _ _ _ _ _ => strLen v0)
  case atStart => exact ⟨s, _, rfl, Nat.le_refl _, Lib.hid rfl, by rw [cell?_bk bk_alloc_new]; rfl, frozen?_bk bk_alloc_new 0, by simp, (Below.refl _ _).alloc (Nat.le_refl _) _⟩
  case round =>
    obtain ⟨t, x, rfl, hts, HX, hc, hf, hlt, hB⟩ := hrel
    by_cases h8 : 8 ≤ t.size
    · have hsz : (t.extract 0 8).size ≤ 8 := by simp; omega
      go_wp2_with (go_at_call 38; refine (take_calls w.heap.size x _ hsz _ hc hf hlt).mono ?_; rintro e w2 ⟨rfl, o, rfl⟩)
      go_roundw
      case rel =>
        refine ⟨t.extract 8 t.size, Dig.mix (x ^^^ Dig.block t.data.toList), rfl, by simp; omega, Lib.hid ?_, ?_, ?_, ?_, ?_⟩
        · rw [ext_drop, ← HX.out, Dig.steps_long (l := t.data.toList) (by simpa using h8)]
        · rw [block_take]
          rw [World.cell?_of_block (w := wr.setCell ⟨w.heap.size, 0, none⟩ _) (bk_alloc_lt (by simpa [World.setCell] using hlt))]
          exact World.cell?_setCell_same' _ _ _ (by rw [hc]; rfl)
        · rw [World.frozen?_of_block (w := wr.setCell ⟨w.heap.size, 0, none⟩ _) (bk_alloc_lt (by simpa [World.setCell] using hlt)), World.frozen?_setCell]; exact hf
        · simp [World.setCell]; omega
        · exact (hB.setCell (p := ⟨w.heap.size, 0, none⟩) (Nat.le_refl _) _).alloc (by simp [World.setCell]; omega) _
      case measure => simp [strLen]; omega
    · have hsz : t.size ≤ 8 := by omega
      have h8' : t.size < 8 := by omega
      go_wp2_with (first
       | (go_at_call 38; refine (take_calls w.heap.size x _ hsz _ hc hf hlt).mono ?_; rintro e w2 ⟨rfl, o, rfl⟩))
      have HX2 : Hid (Dig.mix (x ^^^ Dig.block t.data.toList) = Dig.steps (Dig.start s.size) s.data.toList) := Lib.hid (by rw [← HX.out, Dig.steps_short (by simpa using h8')])
      generalize hm : Dig.mix (x ^^^ Dig.block t.data.toList) = y at *
      clear HX hm
      have hc2 : ((wr.setCell ⟨w.heap.size, 0, none⟩ (.int .u64 (y.toNat : Int))).alloc o).cell? ⟨w.heap.size, 0, none⟩ = some (.int .u64 (y.toNat : Int)) := by
        rw [World.cell?_of_block (w := wr.setCell ⟨w.heap.size, 0, none⟩ _) (bk_alloc_lt (by simpa [World.setCell] using hlt))]
        exact World.cell?_setCell_same' _ _ _ (by rw [hc]; rfl)
      have hlt2 : w.heap.size < ((wr.setCell ⟨w.heap.size, 0, none⟩ (.int .u64 (y.toNat : Int))).alloc o).heap.size := by simp [World.setCell]; omega
      have hB2 : Below w.heap.size w ((wr.setCell ⟨w.heap.size, 0, none⟩ (.int .u64 (y.toNat : Int))).alloc o) := (hB.setCell (p := ⟨w.heap.size, 0, none⟩) (Nat.le_refl _) _).alloc (by simp [World.setCell]; omega) _
      generalize (wr.setCell ⟨w.heap.size, 0, none⟩ (.int .u64 (y.toNat : Int))).alloc o = W2 at *
      clear hc hf hlt hB
      refine (digits_calls _).mono ?_
      rintro e W3 ⟨rfl, hB3⟩
      have hc3 : W3.cell? ⟨w.heap.size, 0, none⟩ = some (.int .u64 (y.toNat : Int)) := (hB3.cell (p := ⟨w.heap.size, 0, none⟩) hlt2).trans hc2
      have hlt3 : w.heap.size < W3.heap.size := Nat.lt_of_lt_of_le hlt2 hB3.size
      have hB4 : Below w.heap.size w W3 := hB2.trans (hB3.mono (Nat.le_of_lt hlt2))
      clear hB3 hc2 hlt2 hB2
      have h16 := digA_size 16
      have hst := store_row W3 (digA 0) (digA 16) 60 rfl digA_one
      rw [← digA_zero] at hst
      go_wp2_with fail
      clear hst
      go_loopw [7, 26] (fun v7 v26 wr => ∃ i : Nat, i ≤ 16 ∧ v26 = .int .i64 i ∧ wr = (W3.alloc (.cells (digA 16) 60)).alloc (.cells (outA y.toNat i) 60)) (fun _ v26 _ => 16 - (intOf v26).toNat)
      case atStart => exact ⟨0, by omega, rfl, rfl⟩
      case round =>
        obtain ⟨i, hi, rfl, rfl⟩ := hrel
        by_cases hlt : i < 16
        · have hand := and_15 y (60 - 4 * i)
          have hos := Lib.hid (outA_succ y.toNat i)
          obtain ⟨d, hd⟩ : ∃ d, y.toNat / 2 ^ (60 - 4 * i) % 16 = d := ⟨_, rfl⟩
          have hd16 : d < 16 := by omega
          rw [hd] at hand hos
          have Hd := Lib.hid hd
          clear hd
          have hda : ∀ h, (digA 16)[d]'h = .int .u8 ((Dig.hexd d).toNat : Int) := fun h => Option.some.inj ((Array.getElem?_eq_getElem h).symm.trans (digA_at d hd16))
          have hg := outA_get y.toNat i hlt
          go_wp2
          go_roundw
          case rel => exact ⟨i + 1, by omega, by go_num, by rw [hos.out]⟩
          case measure => simp [intOf]; omega
        · obtain rfl : i = 16 := by omega
          have hl : (Dig.hex y.toNat).length = 16 := Dig.hex_len _
          have hcv := conv_row (W := (W3.alloc (.cells (digA 16) 60)).alloc (.cells ((Dig.hex y.toNat).map fun b => Value.int .u8 (b.toNat : Int)).toArray 60)) bk_alloc_new hl
          rw [World.size_alloc] at hcv
          rw [outA_bytes]
          have HF : Hid (Dig.hex y.toNat = Dig.sum s.data.toList) := Lib.hid (by rw [HX2.out, show s.size = s.data.toList.length by simp]; rfl)
          go_wp2_with fail
          go_ret
          exact ⟨by rw [HF.out]; rfl, (hB4.alloc (Nat.le_of_lt hlt3) _).alloc (by simp; omega) _⟩
end Go.Proofs.YteleheamnighkaaDoor
end
section
set_option linter.unusedVariables false
set_option linter.unusedSimpArgs false
namespace Go.Dig
open Go.Lib
def val (l : List UInt8) : Nat := l.foldl (fun v c => v * 10 + (c.toNat - 48)) 0
def piece (s : List UInt8) : List UInt8 := decDigits s.length ++ 58 :: s
def joined (l : List (List UInt8)) : List UInt8 := (l.map piece).flatten
theorem joined_cons (s : List UInt8) (l : List (List UInt8)) : joined (s :: l) = piece s ++ joined l := rfl
theorem joined_snoc (l : List (List UInt8)) (s : List UInt8) : joined (l ++ [s]) = joined l ++ piece s := by simp [joined]
theorem piece_len (s : List UInt8) : (piece s).length = nDigits s.length + 1 + s.length := by
  simp [piece, decDigits_length]; omega
theorem nDigits_le {u k : Nat} (hk : 1 ≤ k) (h : u < 10 ^ k) : nDigits u ≤ k := by
  induction k generalizing u with
  | zero => omega
  | succ k ih =>
    by_cases h1 : u < 10
    · rw [nDigits_small h1]; omega
    · rw [nDigits_big h1]
      have hk1 : 1 ≤ k := by
        rcases Nat.eq_zero_or_pos k with rfl | h; · simp at h; omega
        · exact h
      have := ih (u := u / 10) hk1 (by rw [Nat.pow_succ] at h; omega)
      omega
end Go.Dig
end
section
set_option linter.unusedVariables false
set_option linter.unusedSimpArgs false
namespace Go.Proofs.YteleheamnighkaaDoor
open Go.RowKit Go.DoorKit Go.Proofs.YteleheamnighkaaDoorW.PrintWords
def Glob (w : World) : Prop := Lib.TabIs Tryd.prog w "internal/strconv.uint64pow10" .u64 Lib.pow10Tab
theorem Glob.below {w w' : World} (h : Glob w) (hb : Below w.heap.size w w') : Glob w' := Lib.tabBelow_of_tabIs h w' hb
theorem isb_below {T e B b : Nat} {bs : List Value} {w w' : World} (h : Lib.IsBuilder T e B b bs w) (hb : Below w.heap.size w w') : Lib.IsBuilder T e B b bs w' := by
  have one : ∀ p, Lib.BuilderAt T e B b p bs w → Lib.BuilderAt T e B b p bs w' := by
    rintro p ⟨hB, v, hh, ho, hn⟩
    exact ⟨hB, v, (hb.block b ((Array.getElem?_eq_some_iff.1 hh).1)).trans hh, pw_own_below ho hb, hn⟩
  rcases h with h | h
  · exact .inl (one _ h)
  · exact .inr (one _ h)
theorem itoa_any (n : Int) (h0 : 0 ≤ n) (h1 : n ≤ 9223372036854775807) (w : World) (hG : Glob w) :
    Calls Tryd.prog 43 #[.int .i64 n] w fun e w' => (∃ t : ByteArray, e = .returned (.string t) ∧ Hid (t.data.toList = Lib.decDigits n.toNat) ∧ t.size ≤ 21) ∧ Below w.heap.size w w' := by
  refine (Tryd.strconv_Itoa n (by omega) h1 w hG).mono ?_
  rintro e w' ⟨rfl, k, os, rfl⟩
  have hl := Lib.itoa_length_le n (by omega) h1
  refine ⟨⟨_, rfl, Lib.hid ?_, ?_⟩, Lib.below_grow _ _ (Nat.le_refl _) _ _⟩
  · show Lib.itoa n = _
    unfold Lib.itoa; rw [if_neg (by omega)]
  · show (Lib.itoa n).toArray.size ≤ 21
    simpa using hl
theorem joined_ge : ∀ l : List (List UInt8), l.length ≤ (Dig.joined l).length
  | [] => Nat.zero_le _
  | s :: l => by
    have := joined_ge l
    rw [Dig.joined_cons, List.length_append, Dig.piece_len, List.length_cons]; omega
theorem joined_take (l : List (List UInt8)) (i : Nat) (s : List UInt8) (h : l[i]? = some s) : Dig.joined (l.take (i + 1)) = Dig.joined (l.take i) ++ Dig.piece s := by
  rw [List.take_add_one, h, Option.toList_some, Dig.joined_snoc]
theorem joined_le (l : List (List UInt8)) (i : Nat) : (Dig.joined (l.take i)).length ≤ (Dig.joined l).length := by
  have h : Dig.joined l = Dig.joined (l.take i) ++ Dig.joined (l.drop i) := by
    unfold Dig.joined
    rw [← List.flatten_append, ← List.map_append, List.take_append_drop]
  rw [h, List.length_append]; omega
def Holds (b : Nat) (t : List UInt8) (w : World) : Prop := Lib.IsBuilder 64 5 b b (Lib.byteCells t) w
set_option maxRecDepth 100000 in
set_option maxHeartbeats 400000 in
theorem list_calls (A : Option Addr) (c : Nat) (l : List ByteArray) (w : World) (hr : Kd.C Kd.string w A l.length l) (hc : l.length ≤ c) (hj : (Dig.joined (l.map (·.data.toList))).length ≤ 140737488355328) (hG : Glob w) :
    Calls Tryd.prog 19 #[.slice A l.length c] w fun e w' => e = .returned (.string ⟨(Dig.sum (Dig.joined (l.map (·.data.toList)))).toArray⟩) ∧ Below w.heap.size w w' := by
  have hl : l.length ≤ 140737488355328 := by have := joined_ge (l.map (·.data.toList)); rw [List.length_map] at this; omega
  have HR := Lib.hid hr
  have HJ := Lib.hid hj
  have HG := Lib.hid hG
  clear hr hj hG
  go_enter Tryd.func19, Tryd.ntmps19
  go_wp2_with fail
  go_loopw [5, 8] (fun v5 v8 wr => ∃ i : Nat, i ≤ l.length ∧ v8 = .int .i64 i ∧ Holds w.heap.size (Dig.joined ((l.map (·.data.toList)).take i)) wr ∧ Below w.heap.size w wr) (fun _ v8 _ => l.length - (intOf v8).toNat)
  case atStart => exact ⟨0, Nat.zero_le _, rfl, Lib.fresh_isBuilder 64 5 w, (Below.refl _ _).alloc (Nat.le_refl _) _⟩
  case round =>
    obtain ⟨i, hi, rfl, hH, hB⟩ := hrel
    by_cases hlt : i < l.length
    · obtain ⟨ad, hA, hcell⟩ := Kd.at_string (Kd.C_below HR.out hB) (i : Int) (by omega) (by omega)
      obtain ⟨s, hs⟩ : ∃ s, l[i]? = some s := ⟨_, List.getElem?_eq_getElem hlt⟩
      have hrd : rdOf ByteArray.empty l (i : Int) = s := by simp [rdOf, List.getD, hs]
      rw [hrd, Int.toNat_natCast] at hcell
      subst hA
      have hst : (l.map (·.data.toList))[i]? = some s.data.toList := by rw [List.getElem?_map, hs]; rfl
      have hT := joined_take _ _ _ hst
      have hle := joined_le (l.map (·.data.toList)) (i + 1)
      have hpl := Dig.piece_len s.data.toList
      have hlen : (Dig.joined ((l.map (·.data.toList)).take (i + 1))).length = (Dig.joined ((l.map (·.data.toList)).take i)).length + (Dig.piece s.data.toList).length := by rw [hT, List.length_append]
      have hJ := HJ.out
      have hss : s.data.toList.length = s.size := by simp
      have hsz : s.size ≤ 140737488355328 := by omega
      have hsm : (s.size : Int) ≤ 9223372036854775807 := by omega
      have HT := Lib.hid hT
      have HB2 : Hid ((Dig.joined ((l.map (·.data.toList)).take i)).length + (Dig.piece s.data.toList).length ≤ 140737488355328) := Lib.hid (by omega)
      have HP := Lib.hid hpl
      clear hT hle hpl hlen hJ hss hrd hs hst
      generalize Dig.joined ((l.map (·.data.toList)).take i) = J at *
      go_wp2_with (first
        | (go_at_call 43; refine (itoa_any (s.size : Int) (by omega) hsm wr (HG.out.below hB)).mono ?_; rintro e w2 ⟨⟨t, rfl, ht, ht21⟩, hb2⟩))
      have hpc : (t ++ ⟨#[58]⟩ ++ s).data.toList = Dig.piece s.data.toList := by
        simp only [ByteArray.data_append, Array.toList_append, ht.out]
        unfold Dig.piece
        rw [Int.toNat_natCast, show s.data.toList.length = s.size by simp]
        simp
      have hps : (t ++ ⟨#[58]⟩ ++ s).size = (Dig.piece s.data.toList).length := by rw [← hpc, Array.length_toList]; rfl
      have hcells : Lib.byteCells J ++ Lib.strCells (t ++ ⟨#[58]⟩ ++ s) = Lib.byteCells (J ++ Dig.piece s.data.toList) := by rw [Lib.strCells_eq, hpc, ← Lib.byteCells_append]
      refine (Tryd.Builder_WriteString w.heap.size w.heap.size (Lib.byteCells J) _ w2 (isb_below hH hb2) (by rw [hps, Lib.byteCells_length]; exact HB2.out) (Nat.le_trans hB.size hb2.size)).mono ?_
      rintro e w3 ⟨rfl, hb3, hB3⟩
      rw [hcells, ← HT.out] at hb3
      have HH : Holds w.heap.size (Dig.joined ((l.map (·.data.toList)).take (i + 1))) w3 := .inr hb3
      have hB4 : Below w.heap.size w w3 := (hB.trans (hb2.mono hB.size)).trans hB3
      clear hb3 hcells hps hpc hH
      go_wp2
      go_roundw
      case rel => exact ⟨i + 1, by omega, by go_num, HH, hB4⟩
      case measure => simp [intOf]; omega
    · obtain rfl : i = l.length := by omega
      have hT : (l.map (·.data.toList)).take l.length = l.map (·.data.toList) := List.take_of_length_le (by simp)
      rw [hT] at hH
      have HH := Lib.hid hH
      have hJ := HJ.out
      have HS : Hid ((⟨(Dig.joined (l.map (·.data.toList))).toArray⟩ : ByteArray).size ≤ 9223372036854775807) := Lib.hid (by show (Dig.joined _).toArray.size ≤ _; simp at hJ ⊢; omega)
      clear hH hT hJ
      go_wp2_with (first
        | (go_at_call 44; refine (Tryd.Builder_String_any w.heap.size w.heap.size _ _ HH.out hB.size).mono ?_; rintro e w2 ⟨rfl, hb2⟩)
        | (go_at_call 17; refine (sum_calls _ HS.out _).mono ?_; rintro e w3 ⟨rfl, hb3⟩))
      go_ret
      exact ⟨rfl, (hB.trans hb2).trans (hb3.mono (Nat.le_trans hB.size hb2.size))⟩
end Go.Proofs.YteleheamnighkaaDoor
end
section
set_option linter.unusedVariables false
set_option linter.unusedSimpArgs false
namespace Go.Dig
def hexs : List UInt8 := [48, 49, 50, 51, 52, 53, 54, 55, 56, 57, 97, 98, 99, 100, 101, 102]
def isHex (c : UInt8) : Bool := hexs.contains c
def isD (l : List UInt8) : Bool := l.length == 16 && l.all isHex
end Go.Dig
namespace Go.Proofs.YteleheamnighkaaDoor
open Go.RowKit Go.DoorKit
theorem dropWhile_nil {α : Type} (p : α → Bool) : ∀ l : List α, l.dropWhile p = [] ↔ l.all p = true
  | [] => by simp
  | x :: l => by
    rw [List.dropWhile_cons]
    by_cases h : p x = true
    · rw [if_pos h, dropWhile_nil p l, List.all_cons, h, Bool.true_and]
    · rw [if_neg h]; simp [h]
theorem all_reverse {α : Type} (p : α → Bool) (l : List α) : l.reverse.all p = l.all p := by simp
theorem take_all {α : Type} (p : α → Bool) : ∀ l : List α, (l.takeWhile p).all p = true
  | [] => rfl
  | x :: l => by
    rw [List.takeWhile_cons]
    by_cases h : p x = true
    · rw [if_pos h, List.all_cons, h, take_all p l]; rfl
    · rw [if_neg h]; rfl
theorem trim_nil (l cs : List UInt8) : Lib.trimS l cs = [] ↔ l.all (cs.contains ·) = true := by
  unfold Lib.trimS Lib.trimLeftS Lib.trimRightS
  rw [dropWhile_nil, all_reverse]
  constructor
  · intro h
    have h2 := List.takeWhile_append_dropWhile (p := fun c => cs.contains c) (l := l.reverse)
    have h3 : l.reverse.all (fun c => cs.contains c) = true := by
      rw [← h2, List.all_append, h, Bool.and_true]
      exact take_all _ _
    rwa [all_reverse] at h3
  · intro h
    have : List.dropWhile (fun c => cs.contains c) l.reverse = [] := (dropWhile_nil _ _).2 (by rw [all_reverse]; exact h)
    rw [this]; rfl
theorem trim_any (s : ByteArray) (hs : s.size ≤ 9223372036854775807) (w : World) :
    Calls Tryd.prog 45 #[.string s, .string ⟨#[48, 49, 50, 51, 52, 53, 54, 55, 56, 57, 97, 98, 99, 100, 101, 102]⟩] w fun e w' => (∃ t : ByteArray, e = .returned (.string t) ∧ Hid (t.data.toList = [] ↔ s.data.toList.all Dig.isHex = true)) ∧ Below w.heap.size w w' := by
  refine (Tryd.strings_Trim_set s _ w hs (by decide) (ascii_of_all (by decide))).mono ?_
  rintro e w' ⟨rfl, hb⟩
  exact ⟨⟨_, rfl, Lib.hid (trim_nil s.data.toList Dig.hexs)⟩, hb⟩
set_option maxRecDepth 100000 in
set_option maxHeartbeats 400000 in
theorem is_calls (s : ByteArray) (hs : s.size ≤ 9223372036854775807) (w : World) :
    Calls Tryd.prog 21 #[.string s] w fun e w' => e = .returned (.bool (Dig.isD s.data.toList)) ∧ Below w.heap.size w w' := by
  have hl : s.data.toList.length = s.size := by simp
  by_cases h : s.size = 16
  · have h1 : ((s.size : Int) == 16) = true := by simp [h]
    have HD : Hid (Dig.isD s.data.toList = s.data.toList.all Dig.isHex) := Lib.hid (by unfold Dig.isD; rw [hl, h]; rfl)
    clear h hl
    go_enter Tryd.func21, Tryd.ntmps21
    go_wp2_with (go_at_call 45; refine (trim_any s hs _).mono ?_; rintro e w2 ⟨⟨t, rfl, ht⟩, hb⟩)
    go_ret
    refine ⟨?_, hb⟩
    rw [HD.out]
    show Ending.returned (.bool t.toList.isEmpty) = _
    have : t.toList.isEmpty = s.data.toList.all Dig.isHex := by
      rw [Bool.eq_iff_iff, ← ht.out, List.isEmpty_iff, ByteArray.toList_eq]
    rw [this]
  · have h1 : ((s.size : Int) == 16) = false := by simp; omega
    have HD : Hid (Dig.isD s.data.toList = false) := Lib.hid (by unfold Dig.isD; rw [hl]; simp [h])
    clear hl
    go_enter Tryd.func21, Tryd.ntmps21
    go_wp2_with fail
    go_ret
    exact ⟨by rw [HD.out]; rfl, Below.refl _ _⟩
end Go.Proofs.YteleheamnighkaaDoor
end
section
set_option linter.unusedVariables false
set_option linter.unusedSimpArgs false
namespace Go.Proofs.YteleheamnighkaaDoor
open Go.RowKit Go.DoorKit Go.Proofs.YteleheamnighkaaDoorW.PrintWords
abbrev tx (s : ByteArray) : List UInt8 := s.data.toList
def ofT (l : List UInt8) : ByteArray := ⟨l.toArray⟩
theorem tx_ofT (l : List UInt8) : tx (ofT l) = l := rfl
theorem size_ofT (l : List UInt8) : (ofT l).size = l.length := by show l.toArray.size = _; simp
theorem ofT_tx (s : ByteArray) : ofT (tx s) = s := rfl
theorem tx_len (s : ByteArray) : (tx s).length = s.size := by simp
theorem tx_inj {s t : ByteArray} (h : tx s = tx t) : s = t := by rw [← ofT_tx s, h, ofT_tx]
def Big (n : Nat) : Prop := n ≤ 140737488355328
instance (n : Nat) : Decidable (Big n) := inferInstanceAs (Decidable (n ≤ 140737488355328))
theorem Big.out {n : Nat} (h : Big n) : n ≤ 140737488355328 := h
def digest_Sum.f (a0 : ByteArray) : Option ByteArray := if Big a0.size then some (ofT (Dig.sum (tx a0))) else none
theorem digest_Sum.calls (a0 : ByteArray) (r : ByteArray) (w : World) (h : digest_Sum.f a0 = some r) :
    Calls Tryd.prog 17 #[.string a0] w fun e w' => e = .returned (.string r) ∧ Below w.heap.size w w' := by
  unfold digest_Sum.f at h
  split at h
  · rename_i hb
    obtain rfl := Option.some.inj h
    exact sum_calls a0 (by have := hb.out; omega) w
  · cases h
def digest_Is.f (a0 : ByteArray) : Option Bool := if Big a0.size then some (Dig.isD (tx a0)) else none
theorem digest_Is.calls (a0 : ByteArray) (r : Bool) (w : World) (h : digest_Is.f a0 = some r) :
    Calls Tryd.prog 21 #[.string a0] w fun e w' => e = .returned (.bool r) ∧ Below w.heap.size w w' := by
  unfold digest_Is.f at h
  split at h
  · rename_i hb
    obtain rfl := Option.some.inj h
    exact is_calls a0 (by have := hb.out; omega) w
  · cases h
def need (l : List ByteArray) : Nat := (l.map fun s => s.size + 21).sum
theorem joined_need : ∀ l : List ByteArray, Big (need l) → (Dig.joined (l.map tx)).length ≤ need l
  | [], _ => Nat.zero_le _
  | s :: l, h => by
    have h' := h.out
    have e : need (s :: l) = s.size + 21 + need l := rfl
    rw [e] at h'
    have ih := joined_need l (show need l ≤ _ by omega)
    have hd := Dig.nDigits_le (u := (tx s).length) (k := 20) (by omega) (by rw [tx_len]; omega)
    rw [List.map_cons, Dig.joined_cons, List.length_append, Dig.piece_len, e, tx_len] at *
    omega
def digest_List.f (l0 : List ByteArray) : Option ByteArray := if Big (need l0) then some (ofT (Dig.sum (Dig.joined (l0.map tx)))) else none
theorem digest_List.calls (A0 : Option Addr) (c0 : Nat) (l0 : List ByteArray) (r : ByteArray) (w : World) (hr0 : Kd.C Kd.string w A0 l0.length l0) (hc0 : l0.length ≤ c0) (h : digest_List.f l0 = some r) (hG : Glob w) :
    Calls Tryd.prog 19 #[.slice A0 l0.length c0] w fun e w' => e = .returned (.string r) ∧ Below w.heap.size w w' := by
  unfold digest_List.f at h
  split at h
  · rename_i hb
    obtain rfl := Option.some.inj h
    exact list_calls A0 c0 l0 w hr0 hc0 (Nat.le_trans (joined_need l0 hb) hb.out) hG
  · cases h
end Go.Proofs.YteleheamnighkaaDoor
end
section
namespace Go.Proofs.YteleheamnighkaaDoor.PBase
open Go.RowKit Go.Proofs.YteleheamnighkaaDoorW.PrintWords Go.Proofs.YteleheamnighkaaDoorW.PrintLast Go.Proofs.YteleheamnighkaaDoorW.PrintMore
attribute [local go_sem] max2_int min2_int max_two min_two max_three min_three max_four min_four   -- for this text's walks alone
set_option linter.unusedVariables false
set_option linter.unusedSimpArgs false
def planispherelaw02_short.l0 : Nat → List ByteArray → Int → Option (Bool)
  | 0, _, _ => none
  | k + 1, x0, x3 => if x3 < (x0.length : Int) then (if 0 ≤ x3 then (if ((rdOf ByteArray.empty x0 x3).size : Int) > 300 then (some false) else (planispherelaw02_short.l0 k x0 (wrap64 (x3 + 1)))) else (none)) else (some true)
def planispherelaw02_short.f (k : Nat) (l0 : List ByteArray) : Option (Bool) := planispherelaw02_short.l0 k l0 0
set_option maxHeartbeats 8000000 in
set_option maxRecDepth 100000 in
theorem planispherelaw02_short.calls (k : Nat) (A0 : Option Addr) (c0 : Nat) (l0 : List ByteArray) (r : Bool) (w : World) (hr0 : Kd.C Kd.string w A0 l0.length l0) (hc0 : l0.length ≤ c0) (h : planispherelaw02_short.f k l0 = some r) :
    Calls Tryd.prog 26 #[.slice A0 l0.length c0] w fun e w' => e = .returned (.bool r) ∧ Drawn0 w w' := by
  have HR0 := Aside0.mk hr0
  have HC0 := Aside0.mk hc0
  clear hr0 hc0
  have H : (planispherelaw02_short.l0 k l0 0) = some r := h
  clear h
  have H' := Aside0.mk H
  clear H
  go_enter Tryd.func26, Tryd.ntmps26
  go_wp2
  go_loopg [3] k (fun kq v3 w' => ∃ (x3_1 : Int), v3 = .int .i64 x3_1 ∧ Aside0 (planispherelaw02_short.l0 kq l0 x3_1 = some r) ∧ Aside0 (kq ≤ k) ∧ Drawn0 w w')
  case atStart => exact ⟨(0), (by first | rfl | (simp; done) | (simp [*]; done)), H', ⟨Nat.le_refl _⟩, by repeat (first | exact Drawn0.refl _ | apply Drawn0.step)⟩
  case round =>
    clear H'
    obtain ⟨x3_1, rfl, HA, HK1, ⟨m1, rfl⟩⟩ := hrel
    cases gk with
    | zero => exact absurd HA.out (by simp [planispherelaw02_short.l0])
    | succ k1 =>
      have H := HA.out
      clear HA
      simp only [planispherelaw02_short.l0] at H
      by_cases c2 : x3_1 < (l0.length : Int)
      · rw [if_pos c2] at H
        have c2b0 : decide (x3_1 < (l0.length : Int)) = true := decide_eq_true c2
        clear c2
        by_cases c3 : 0 ≤ x3_1
        · rw [if_pos c3] at H
          have c3b0 : decide (0 ≤ x3_1) = true := decide_eq_true c3
          clear c3
          by_cases c4 : ((rdOf ByteArray.empty l0 x3_1).size : Int) > 300
          · rw [if_pos c4] at H
            have c4b0 : decide (300 < ((rdOf ByteArray.empty l0 x3_1).size : Int)) = true := decide_eq_true c4
            have c4b1 : decide (300 < (rdOf ByteArray.empty l0 x3_1).size) = true := decide_eq_true (by omega)
            clear c4
            obtain rfl := Option.some.inj H
            have p108 : 0 ≤ (x3_1 : Int) := of_decide_eq_true (by first | (with_reducible assumption) | assumption)
            have q108 : x3_1 < (l0.length : Int) := of_decide_eq_true (by first | (with_reducible assumption) | assumption)
            obtain ⟨ad108, e108, hx108_0⟩ := Kd.at_string HR0.out x3_1 p108 q108
            cases e108
            replace p108 := eq_true p108
            replace q108 := eq_true q108
            go_wp2
            go_ret
            exact ⟨by first | rfl | (simp; done) | (simp [*]; done), by repeat (first | exact Drawn0.refl _ | apply Drawn0.step)⟩
          · rw [if_neg c4] at H
            have c4b0 : decide (300 < ((rdOf ByteArray.empty l0 x3_1).size : Int)) = false := decide_eq_false c4
            have c4b1 : decide (300 < (rdOf ByteArray.empty l0 x3_1).size) = false := decide_eq_false (by omega)
            clear c4
            have H' := Aside0.mk H
            clear H
            have p108 : 0 ≤ (x3_1 : Int) := of_decide_eq_true (by first | (with_reducible assumption) | assumption)
            have q108 : x3_1 < (l0.length : Int) := of_decide_eq_true (by first | (with_reducible assumption) | assumption)
            obtain ⟨ad108, e108, hx108_0⟩ := Kd.at_string HR0.out x3_1 p108 q108
            cases e108
            replace p108 := eq_true p108
            replace q108 := eq_true q108
            go_wp2
            go_roundg k1
            case measure => have := HK1.out; omega
            case rel => exact ⟨(wrap64 (x3_1 + 1)), (by first | rfl | (simp; done) | (simp [*]; done)), H', ⟨by have := HK1.out; omega⟩, by repeat (first | exact Drawn0.refl _ | apply Drawn0.step)⟩
        · rw [if_neg c3] at H
          exact absurd H (by simp)
      · rw [if_neg c2] at H
        have c2b0 : decide (x3_1 < (l0.length : Int)) = false := decide_eq_false c2
        clear c2
        obtain rfl := Option.some.inj H
        go_wp2
        go_ret
        exact ⟨by first | rfl | (simp; done) | (simp [*]; done), by repeat (first | exact Drawn0.refl _ | apply Drawn0.step)⟩
end Go.Proofs.YteleheamnighkaaDoor.PBase
end
section
namespace Go.Proofs.YteleheamnighkaaDoor.PBase
open Go.RowKit Go.Proofs.YteleheamnighkaaDoorW.PrintWords Go.Proofs.YteleheamnighkaaDoorW.PrintLast Go.Proofs.YteleheamnighkaaDoorW.PrintMore
attribute [local go_sem] max2_int min2_int max_two min_two max_three min_three max_four min_four   -- for this text's walks alone
set_option linter.unusedVariables false
set_option linter.unusedSimpArgs false
mutual
def planisphereref02_Few.l0 : Nat → Int → Int → List ByteArray → List ByteArray → Option (Bool)
  | 0, _, _, _, _ => none
  | k + 1, x3, x110000, x110001, x110002 => if x3 < (x110001.length : Int) then (planisphereref02_Few.j1 k x3 (decide (x3 < 30)) x110000 x110001 x110002) else (planisphereref02_Few.j1 k x3 false x110000 x110001 x110002)
def planisphereref02_Few.j1 : Nat → Int → Bool → Int → List ByteArray → List ByteArray → Option (Bool)
  | 0, _, _, _, _, _ => none
  | k + 1, x3, x13, x110000, x110001, x110002 => if x13 = true then (if 0 ≤ x3 then (if x3 < (x110001.length : Int) then (if ((rdOf ByteArray.empty x110001 x3).size : Int) > 100 then (some false) else (planisphereref02_Few.l0 k (wrap64 (x3 + 1)) x110000 x110001 x110002)) else (none)) else (none)) else (planisphereref02_Few.l1 k 0 x110000 x110001 x110002)
def planisphereref02_Few.l1 : Nat → Int → Int → List ByteArray → List ByteArray → Option (Bool)
  | 0, _, _, _, _ => none
  | k + 1, x4, x110000, x110001, x110002 => if x4 < (x110002.length : Int) then (planisphereref02_Few.j3 k x4 (decide (x4 < 30)) x110000 x110001 x110002) else (planisphereref02_Few.j3 k x4 false x110000 x110001 x110002)
def planisphereref02_Few.j3 : Nat → Int → Bool → Int → List ByteArray → List ByteArray → Option (Bool)
  | 0, _, _, _, _, _ => none
  | k + 1, x4, x31, x110000, x110001, x110002 => if x31 = true then (if 0 ≤ x4 then (if x4 < (x110002.length : Int) then (if ((rdOf ByteArray.empty x110002 x4).size : Int) > 100 then (some false) else (planisphereref02_Few.l1 k (wrap64 (x4 + 1)) x110000 x110001 x110002)) else (none)) else (none)) else (if (x110001.length : Int) ≤ 30 then (some (decide ((x110002.length : Int) ≤ 30))) else (some false))
end
def planisphereref02_Few.f (k : Nat) (a0_0 : Int) (l0_1 : List ByteArray) (l0_2 : List ByteArray) : Option (Bool) := planisphereref02_Few.l0 k 0 a0_0 l0_1 l0_2
set_option maxHeartbeats 8000000 in
set_option maxRecDepth 100000 in
theorem planisphereref02_Few.calls (k : Nat) (a0_0 : Int) (A0_1 : Option Addr) (c0_1 : Nat) (l0_1 : List ByteArray) (A0_2 : Option Addr) (c0_2 : Nat) (l0_2 : List ByteArray) (r : Bool) (w : World) (hr0_1 : Kd.C Kd.string w A0_1 l0_1.length l0_1) (hc0_1 : l0_1.length ≤ c0_1) (hr0_2 : Kd.C Kd.string w A0_2 l0_2.length l0_2) (hc0_2 : l0_2.length ≤ c0_2) (h : planisphereref02_Few.f k a0_0 l0_1 l0_2 = some r) :
    Calls Tryd.prog 27 #[.agg #[.int .i64 a0_0, .slice A0_1 l0_1.length c0_1, .slice A0_2 l0_2.length c0_2]] w fun e w' => e = .returned (.bool r) ∧ Below w.heap.size w w' := by
  have hu35 := Tryd.underlying35
  have HR0_1 := Aside0.mk hr0_1
  have HC0_1 := Aside0.mk hc0_1
  clear hr0_1 hc0_1
  have HR0_2 := Aside0.mk hr0_2
  have HC0_2 := Aside0.mk hc0_2
  clear hr0_2 hc0_2
  have HB := Aside0.mk (Below.refl w.heap.size w)
  have H : (planisphereref02_Few.l0 k 0 a0_0 l0_1 l0_2) = some r := h
  clear h
  have H' := Aside0.mk H
  clear H
  go_enter Tryd.func27, Tryd.ntmps27
  go_wp2_with (first | ((with_reducible refine gate_dst (N := 1) rfl ?_); (try (refine gate_guard (by rfl) ?_; dsimp only)); refine box_event ?hg (N := 1) ?hd (cs := #[.int .i64 a0_0, .slice A0_1 l0_1.length c0_1, .slice A0_2 l0_2.length c0_2]) (t := 35) ?hr ?_; (case hd => rfl); (case hg => rfl); (case hr => first | (go_simp; done) | (go_simp; rfl)); intro gb109 hg w2 hbox hb; have n0_ := Aside0.mk (below_step (by repeat (first | (with_reducible first | exact HB.out | apply below_alloc | apply pw_below_drewN | apply below_drew1) | exact HB.out)) hb); have n1_ := Aside0.mk (hbox); have n2_ := Aside0.mk ((by rw [hg]; exact (below_size (by repeat (first | (with_reducible first | exact HB.out | apply below_alloc | apply pw_below_drewN | apply below_drew1) | exact HB.out))) : w.heap.size ≤ gb109)); have n3_ := Aside0.mk ((by rw [hg]; exact (below_size (by repeat (first | (with_reducible first | exact HB.out | apply below_alloc | apply pw_below_drewN | apply below_drew1) | exact HB.out))) : w.heap.size ≤ gb109)); clear HB; have HB := n0_; have BK109 := n1_; have GW109 := n2_; have GE109 := n3_; clear n0_ n1_ n2_ n3_; clear hb hbox hg))
  go_loopg [3] k (fun kq v3 w' => ∃ (x3_1 : Int), v3 = .int .i64 x3_1 ∧ Aside0 (planisphereref02_Few.l0 kq x3_1 a0_0 l0_1 l0_2 = some r) ∧ Aside0 (kq ≤ k) ∧ Aside0 (w'.heap[gb109]? = some (.cells #[.int .i64 a0_0, (.slice A0_1 l0_1.length c0_1), (.slice A0_2 l0_2.length c0_2)] 35 (0, 0))) ∧ Aside0 (Below w.heap.size w w'))
  case atStart => exact ⟨(0), (by first | rfl | (simp; done) | (simp [*]; done)), H', ⟨Nat.le_refl _⟩, ⟨by (with_reducible repeat (first | refine blk_drewN ?_ _ | refine blk_drew ?_ | refine blk_alloc ?_ _)); exact BK109.out⟩, ⟨by repeat (first | (with_reducible first | exact HB.out | apply below_alloc | apply pw_below_drewN | apply below_drew1 | refine below_set ?_ GE109.out) | exact HB.out)⟩⟩
  case round =>
    clear H'
    try clear c2
    try clear p2
    obtain ⟨x3_1, rfl, HA, HK1, BK109, HB⟩ := hrel
    cases gk with
    | zero => exact absurd HA.out (by simp [planisphereref02_Few.l0])
    | succ k1 =>
      have H := HA.out
      clear HA
      simp only [planisphereref02_Few.l0] at H
      have HC3 := Aside0.mk H
      clear H
      go_upto_region 2 with (fail)
      go_cut [13] (fun v13 wc => ∃ (kq : Nat) (x13_2 : Bool), v13 = .bool x13_2 ∧ Aside0 (planisphereref02_Few.j1 kq x3_1 x13_2 a0_0 l0_1 l0_2 = some r) ∧ Aside0 (kq ≤ k1) ∧ Aside0 (wc.heap[gb109]? = some (.cells #[.int .i64 a0_0, (.slice A0_1 l0_1.length c0_1), (.slice A0_2 l0_2.length c0_2)] 35 (0, 0))) ∧ Aside0 (Below w.heap.size w wc))
      case first =>
        have H := HC3.out
        clear HC3
        by_cases c4 : x3_1 < (l0_1.length : Int)
        · rw [if_pos c4] at H
          have c4b0 : decide (x3_1 < (l0_1.length : Int)) = true := decide_eq_true c4
          clear c4
          (first | rw [c4b0] | (simp only [i64_w, i32_w]; rw [c4b0]) | skip)
          have H' := Aside0.mk H
          clear H
          have hcz5_0 : wr.cell? ⟨gb109, 0, none⟩ = some (.int .i64 a0_0) := (blk_cell BK109.out 0).trans rfl
          have hcz5_1 : wr.cell? ⟨gb109, 1, none⟩ = some (.slice A0_1 l0_1.length c0_1) := (blk_cell BK109.out 1).trans rfl
          have hcz5_2 : wr.cell? ⟨gb109, 2, none⟩ = some (.slice A0_2 l0_2.length c0_2) := (blk_cell BK109.out 2).trans rfl
          have hfz5_0 := blk_frozen BK109.out 0
          have hfz5_1 := blk_frozen BK109.out 1
          have hfz5_2 := blk_frozen BK109.out 2
          go_wp2
          go_meet
          case rel => exact ⟨_, (decide (x3_1 < 30)), (by first | rfl | (simp; done) | (simp [*]; done)), H', ⟨by have := HK1.out; first | omega | exact Nat.le_refl _⟩, ⟨by (with_reducible repeat (first | refine blk_drewN ?_ _ | refine blk_drew ?_ | refine blk_alloc ?_ _)); exact BK109.out⟩, ⟨by repeat (first | (with_reducible first | exact HB.out | apply below_alloc | apply pw_below_drewN | apply below_drew1 | refine below_set ?_ GE109.out) | exact HB.out)⟩⟩
        · rw [if_neg c4] at H
          have c4b0 : decide (x3_1 < (l0_1.length : Int)) = false := decide_eq_false c4
          clear c4
          (first | rw [c4b0] | (simp only [i64_w, i32_w]; rw [c4b0]) | skip)
          have H' := Aside0.mk H
          clear H
          have hcz6_0 : wr.cell? ⟨gb109, 0, none⟩ = some (.int .i64 a0_0) := (blk_cell BK109.out 0).trans rfl
          have hcz6_1 : wr.cell? ⟨gb109, 1, none⟩ = some (.slice A0_1 l0_1.length c0_1) := (blk_cell BK109.out 1).trans rfl
          have hcz6_2 : wr.cell? ⟨gb109, 2, none⟩ = some (.slice A0_2 l0_2.length c0_2) := (blk_cell BK109.out 2).trans rfl
          have hfz6_0 := blk_frozen BK109.out 0
          have hfz6_1 := blk_frozen BK109.out 1
          have hfz6_2 := blk_frozen BK109.out 2
          go_wp2
          go_meet
          case rel => exact ⟨_, (false), (by first | rfl | (simp; done) | (simp [*]; done)), H', ⟨by have := HK1.out; first | omega | exact Nat.le_refl _⟩, ⟨by (with_reducible repeat (first | refine blk_drewN ?_ _ | refine blk_drew ?_ | refine blk_alloc ?_ _)); exact BK109.out⟩, ⟨by repeat (first | (with_reducible first | exact HB.out | apply below_alloc | apply pw_below_drewN | apply below_drew1 | refine below_set ?_ GE109.out) | exact HB.out)⟩⟩
      case rest =>
        clear HC3
        try clear c2
        try clear p2
        try clear c4
        try clear c4b0
        try clear hcz5_0
        try clear hcz5_1
        try clear hcz5_2
        try clear hcz6_0
        try clear hcz6_1
        try clear hcz6_2
        try clear hfz5_0
        try clear hfz5_1
        try clear hfz5_2
        try clear hfz6_0
        try clear hfz6_1
        try clear hfz6_2
        try clear p2
        obtain ⟨kq, x13_2, rfl, HA, HJ2, BK109, HB⟩ := hcut
        cases kq with
        | zero => exact absurd HA.out (by simp [planisphereref02_Few.j1])
        | succ kj2 =>
          have H := HA.out
          clear HA
          simp only [planisphereref02_Few.j1] at H
          by_cases c7 : x13_2 = true
          · subst c7
            have H1 : (if 0 ≤ x3_1 then (if x3_1 < (l0_1.length : Int) then (if ((rdOf ByteArray.empty l0_1 x3_1).size : Int) > 100 then (some false) else (planisphereref02_Few.l0 kj2 (wrap64 (x3_1 + 1)) a0_0 l0_1 l0_2)) else (none)) else (none)) = some r := by rw [if_pos rfl] at H; exact H
            clear H
            have H := H1
            clear H1
            by_cases c8 : 0 ≤ x3_1
            · rw [if_pos c8] at H
              have c8b0 : decide (0 ≤ x3_1) = true := decide_eq_true c8
              clear c8
              by_cases c9 : x3_1 < (l0_1.length : Int)
              · rw [if_pos c9] at H
                have c9b0 : decide (x3_1 < (l0_1.length : Int)) = true := decide_eq_true c9
                clear c9
                by_cases c10 : ((rdOf ByteArray.empty l0_1 x3_1).size : Int) > 100
                · rw [if_pos c10] at H
                  have c10b0 : decide (100 < ((rdOf ByteArray.empty l0_1 x3_1).size : Int)) = true := decide_eq_true c10
                  have c10b1 : decide (100 < (rdOf ByteArray.empty l0_1 x3_1).size) = true := decide_eq_true (by omega)
                  clear c10
                  obtain rfl := Option.some.inj H
                  have hcz11_0 : wc.cell? ⟨gb109, 0, none⟩ = some (.int .i64 a0_0) := (blk_cell BK109.out 0).trans rfl
                  have hcz11_1 : wc.cell? ⟨gb109, 1, none⟩ = some (.slice A0_1 l0_1.length c0_1) := (blk_cell BK109.out 1).trans rfl
                  have hcz11_2 : wc.cell? ⟨gb109, 2, none⟩ = some (.slice A0_2 l0_2.length c0_2) := (blk_cell BK109.out 2).trans rfl
                  have hfz11_0 := blk_frozen BK109.out 0
                  have hfz11_1 := blk_frozen BK109.out 1
                  have hfz11_2 := blk_frozen BK109.out 2
                  have p110 : 0 ≤ (x3_1 : Int) := of_decide_eq_true (by first | (with_reducible assumption) | assumption)
                  have q110 : x3_1 < (l0_1.length : Int) := of_decide_eq_true (by first | (with_reducible assumption) | assumption)
                  obtain ⟨ad110, e110, hx110_0⟩ := Kd.at_string HR0_1.out x3_1 p110 q110
                  cases e110
                  replace hx110_0 := (HB.out.cell (World.block_lt_of_cell? w _ hx110_0)).trans hx110_0
                  replace p110 := eq_true p110
                  replace q110 := eq_true q110
                  go_wp2
                  go_ret
                  exact ⟨by first | rfl | (simp [errW_none, errW_some] <;> rfl) | (simp [*, errW_none, errW_some] <;> rfl), by repeat (first | (with_reducible first | exact HB.out | apply below_alloc | apply pw_below_drewN | apply below_drew1 | refine below_set ?_ GE109.out) | exact HB.out)⟩
                · rw [if_neg c10] at H
                  have c10b0 : decide (100 < ((rdOf ByteArray.empty l0_1 x3_1).size : Int)) = false := decide_eq_false c10
                  have c10b1 : decide (100 < (rdOf ByteArray.empty l0_1 x3_1).size) = false := decide_eq_false (by omega)
                  clear c10
                  have H' := Aside0.mk H
                  clear H
                  have hcz12_0 : wc.cell? ⟨gb109, 0, none⟩ = some (.int .i64 a0_0) := (blk_cell BK109.out 0).trans rfl
                  have hcz12_1 : wc.cell? ⟨gb109, 1, none⟩ = some (.slice A0_1 l0_1.length c0_1) := (blk_cell BK109.out 1).trans rfl
                  have hcz12_2 : wc.cell? ⟨gb109, 2, none⟩ = some (.slice A0_2 l0_2.length c0_2) := (blk_cell BK109.out 2).trans rfl
                  have hfz12_0 := blk_frozen BK109.out 0
                  have hfz12_1 := blk_frozen BK109.out 1
                  have hfz12_2 := blk_frozen BK109.out 2
                  have p110 : 0 ≤ (x3_1 : Int) := of_decide_eq_true (by first | (with_reducible assumption) | assumption)
                  have q110 : x3_1 < (l0_1.length : Int) := of_decide_eq_true (by first | (with_reducible assumption) | assumption)
                  obtain ⟨ad110, e110, hx110_0⟩ := Kd.at_string HR0_1.out x3_1 p110 q110
                  cases e110
                  replace hx110_0 := (HB.out.cell (World.block_lt_of_cell? w _ hx110_0)).trans hx110_0
                  replace p110 := eq_true p110
                  replace q110 := eq_true q110
                  go_wp2
                  go_roundg kj2
                  case measure => have := HK1.out; have := HJ2.out; omega
                  case rel => exact ⟨(wrap64 (x3_1 + 1)), (by first | rfl | (simp; done) | (simp [*]; done)), H', ⟨by have := HK1.out; have := HJ2.out; omega⟩, ⟨by (with_reducible repeat (first | refine blk_drewN ?_ _ | refine blk_drew ?_ | refine blk_alloc ?_ _)); exact BK109.out⟩, ⟨by repeat (first | (with_reducible first | exact HB.out | apply below_alloc | apply pw_below_drewN | apply below_drew1 | refine below_set ?_ GE109.out) | exact HB.out)⟩⟩
              · rw [if_neg c9] at H
                exact absurd H (by simp)
            · rw [if_neg c8] at H
              exact absurd H (by simp)
          · replace c7 := Bool.eq_false_iff.mpr c7
            subst c7
            have H1 : (planisphereref02_Few.l1 kj2 0 a0_0 l0_1 l0_2) = some r := by rw [if_neg (show ¬ (false = true) by decide)] at H; exact H
            clear H
            have H := H1
            clear H1
            have H' := Aside0.mk H
            clear H
            go_wp2
            go_loopg [4] kj2 (fun kq v4 w' => ∃ (x4_3 : Int), v4 = .int .i64 x4_3 ∧ Aside0 (planisphereref02_Few.l1 kq x4_3 a0_0 l0_1 l0_2 = some r) ∧ Aside0 (kq ≤ kj2) ∧ Aside0 (w'.heap[gb109]? = some (.cells #[.int .i64 a0_0, (.slice A0_1 l0_1.length c0_1), (.slice A0_2 l0_2.length c0_2)] 35 (0, 0))) ∧ Aside0 (Below w.heap.size w w'))
            case atStart => exact ⟨(0), (by first | rfl | (simp; done) | (simp [*]; done)), H', ⟨Nat.le_refl _⟩, ⟨by (with_reducible repeat (first | refine blk_drewN ?_ _ | refine blk_drew ?_ | refine blk_alloc ?_ _)); exact BK109.out⟩, ⟨by repeat (first | (with_reducible first | exact HB.out | apply below_alloc | apply pw_below_drewN | apply below_drew1 | refine below_set ?_ GE109.out) | exact HB.out)⟩⟩
            case round =>
              clear H'
              try clear c1
              try clear p1
              try clear q1
              try clear hx1
              try clear c2
              try clear p2
              try clear c4
              try clear c4b0
              try clear p6
              try clear c7
              try clear c8
              try clear c8b0
              try clear c9
              try clear c9b0
              try clear c10
              try clear c10b0
              try clear c10b1
              try clear p11
              try clear q11
              try clear hx11
              try clear hcz11_0
              try clear hcz11_1
              try clear hcz11_2
              try clear hcz12_0
              try clear hcz12_1
              try clear hcz12_2
              try clear hcz5_0
              try clear hcz5_1
              try clear hcz5_2
              try clear hcz6_0
              try clear hcz6_1
              try clear hcz6_2
              try clear hfz11_0
              try clear hfz11_1
              try clear hfz11_2
              try clear hfz12_0
              try clear hfz12_1
              try clear hfz12_2
              try clear hfz5_0
              try clear hfz5_1
              try clear hfz5_2
              try clear hfz6_0
              try clear hfz6_1
              try clear hfz6_2
              try clear hx110_0
              try clear p110
              try clear p2
              try clear q110
              obtain ⟨x4_3, rfl, HA, HK3, BK109, HB⟩ := hrel
              cases gk with
              | zero => exact absurd HA.out (by simp [planisphereref02_Few.l1])
              | succ k3 =>
                have H := HA.out
                clear HA
                simp only [planisphereref02_Few.l1] at H
                have HC13 := Aside0.mk H
                clear H
                go_upto_region 7 with (fail)
                go_cut [31] (fun v31 wc => ∃ (kq : Nat) (x31_12 : Bool), v31 = .bool x31_12 ∧ Aside0 (planisphereref02_Few.j3 kq x4_3 x31_12 a0_0 l0_1 l0_2 = some r) ∧ Aside0 (kq ≤ k3) ∧ Aside0 (wc.heap[gb109]? = some (.cells #[.int .i64 a0_0, (.slice A0_1 l0_1.length c0_1), (.slice A0_2 l0_2.length c0_2)] 35 (0, 0))) ∧ Aside0 (Below w.heap.size w wc))
                case first =>
                  have H := HC13.out
                  clear HC13
                  by_cases c14 : x4_3 < (l0_2.length : Int)
                  · rw [if_pos c14] at H
                    have c14b0 : decide (x4_3 < (l0_2.length : Int)) = true := decide_eq_true c14
                    clear c14
                    (first | rw [c14b0] | (simp only [i64_w, i32_w]; rw [c14b0]) | skip)
                    have H' := Aside0.mk H
                    clear H
                    have hcz15_0 : wr.cell? ⟨gb109, 0, none⟩ = some (.int .i64 a0_0) := (blk_cell BK109.out 0).trans rfl
                    have hcz15_1 : wr.cell? ⟨gb109, 1, none⟩ = some (.slice A0_1 l0_1.length c0_1) := (blk_cell BK109.out 1).trans rfl
                    have hcz15_2 : wr.cell? ⟨gb109, 2, none⟩ = some (.slice A0_2 l0_2.length c0_2) := (blk_cell BK109.out 2).trans rfl
                    have hfz15_0 := blk_frozen BK109.out 0
                    have hfz15_1 := blk_frozen BK109.out 1
                    have hfz15_2 := blk_frozen BK109.out 2
                    go_wp2
                    go_meet
                    case rel => exact ⟨_, (decide (x4_3 < 30)), (by first | rfl | (simp; done) | (simp [*]; done)), H', ⟨by have := HK1.out; have := HJ2.out; have := HK3.out; first | omega | exact Nat.le_refl _⟩, ⟨by (with_reducible repeat (first | refine blk_drewN ?_ _ | refine blk_drew ?_ | refine blk_alloc ?_ _)); exact BK109.out⟩, ⟨by repeat (first | (with_reducible first | exact HB.out | apply below_alloc | apply pw_below_drewN | apply below_drew1 | refine below_set ?_ GE109.out) | exact HB.out)⟩⟩
                  · rw [if_neg c14] at H
                    have c14b0 : decide (x4_3 < (l0_2.length : Int)) = false := decide_eq_false c14
                    clear c14
                    (first | rw [c14b0] | (simp only [i64_w, i32_w]; rw [c14b0]) | skip)
                    have H' := Aside0.mk H
                    clear H
                    have hcz16_0 : wr.cell? ⟨gb109, 0, none⟩ = some (.int .i64 a0_0) := (blk_cell BK109.out 0).trans rfl
                    have hcz16_1 : wr.cell? ⟨gb109, 1, none⟩ = some (.slice A0_1 l0_1.length c0_1) := (blk_cell BK109.out 1).trans rfl
                    have hcz16_2 : wr.cell? ⟨gb109, 2, none⟩ = some (.slice A0_2 l0_2.length c0_2) := (blk_cell BK109.out 2).trans rfl
                    have hfz16_0 := blk_frozen BK109.out 0
                    have hfz16_1 := blk_frozen BK109.out 1
                    have hfz16_2 := blk_frozen BK109.out 2
                    go_wp2
                    go_meet
                    case rel => exact ⟨_, (false), (by first | rfl | (simp; done) | (simp [*]; done)), H', ⟨by have := HK1.out; have := HJ2.out; have := HK3.out; first | omega | exact Nat.le_refl _⟩, ⟨by (with_reducible repeat (first | refine blk_drewN ?_ _ | refine blk_drew ?_ | refine blk_alloc ?_ _)); exact BK109.out⟩, ⟨by repeat (first | (with_reducible first | exact HB.out | apply below_alloc | apply pw_below_drewN | apply below_drew1 | refine below_set ?_ GE109.out) | exact HB.out)⟩⟩
                case rest =>
                  clear HC13
                  try clear c1
                  try clear p1
                  try clear q1
                  try clear hx1
                  try clear c2
                  try clear p2
                  try clear c4
                  try clear c4b0
                  try clear p6
                  try clear c7
                  try clear c8
                  try clear c8b0
                  try clear c9
                  try clear c9b0
                  try clear c10
                  try clear c10b0
                  try clear c10b1
                  try clear p11
                  try clear q11
                  try clear hx11
                  try clear c14
                  try clear c14b0
                  try clear hcz11_0
                  try clear hcz11_1
                  try clear hcz11_2
                  try clear hcz12_0
                  try clear hcz12_1
                  try clear hcz12_2
                  try clear hcz15_0
                  try clear hcz15_1
                  try clear hcz15_2
                  try clear hcz16_0
                  try clear hcz16_1
                  try clear hcz16_2
                  try clear hcz5_0
                  try clear hcz5_1
                  try clear hcz5_2
                  try clear hcz6_0
                  try clear hcz6_1
                  try clear hcz6_2
                  try clear hfz11_0
                  try clear hfz11_1
                  try clear hfz11_2
                  try clear hfz12_0
                  try clear hfz12_1
                  try clear hfz12_2
                  try clear hfz15_0
                  try clear hfz15_1
                  try clear hfz15_2
                  try clear hfz16_0
                  try clear hfz16_1
                  try clear hfz16_2
                  try clear hfz5_0
                  try clear hfz5_1
                  try clear hfz5_2
                  try clear hfz6_0
                  try clear hfz6_1
                  try clear hfz6_2
                  try clear hx110_0
                  try clear p1
                  try clear p11
                  try clear p110
                  try clear p2
                  try clear p6
                  try clear q1
                  try clear q11
                  try clear q110
                  obtain ⟨kq, x31_12, rfl, HA, HJ12, BK109, HB⟩ := hcut
                  cases kq with
                  | zero => exact absurd HA.out (by simp [planisphereref02_Few.j3])
                  | succ kj12 =>
                    have H := HA.out
                    clear HA
                    simp only [planisphereref02_Few.j3] at H
                    by_cases c17 : x31_12 = true
                    · subst c17
                      have H1 : (if 0 ≤ x4_3 then (if x4_3 < (l0_2.length : Int) then (if ((rdOf ByteArray.empty l0_2 x4_3).size : Int) > 100 then (some false) else (planisphereref02_Few.l1 kj12 (wrap64 (x4_3 + 1)) a0_0 l0_1 l0_2)) else (none)) else (none)) = some r := by rw [if_pos rfl] at H; exact H
                      clear H
                      have H := H1
                      clear H1
                      by_cases c18 : 0 ≤ x4_3
                      · rw [if_pos c18] at H
                        have c18b0 : decide (0 ≤ x4_3) = true := decide_eq_true c18
                        clear c18
                        by_cases c19 : x4_3 < (l0_2.length : Int)
                        · rw [if_pos c19] at H
                          have c19b0 : decide (x4_3 < (l0_2.length : Int)) = true := decide_eq_true c19
                          clear c19
                          by_cases c20 : ((rdOf ByteArray.empty l0_2 x4_3).size : Int) > 100
                          · rw [if_pos c20] at H
                            have c20b0 : decide (100 < ((rdOf ByteArray.empty l0_2 x4_3).size : Int)) = true := decide_eq_true c20
                            have c20b1 : decide (100 < (rdOf ByteArray.empty l0_2 x4_3).size) = true := decide_eq_true (by omega)
                            clear c20
                            obtain rfl := Option.some.inj H
                            have hcz21_0 : wc.cell? ⟨gb109, 0, none⟩ = some (.int .i64 a0_0) := (blk_cell BK109.out 0).trans rfl
                            have hcz21_1 : wc.cell? ⟨gb109, 1, none⟩ = some (.slice A0_1 l0_1.length c0_1) := (blk_cell BK109.out 1).trans rfl
                            have hcz21_2 : wc.cell? ⟨gb109, 2, none⟩ = some (.slice A0_2 l0_2.length c0_2) := (blk_cell BK109.out 2).trans rfl
                            have hfz21_0 := blk_frozen BK109.out 0
                            have hfz21_1 := blk_frozen BK109.out 1
                            have hfz21_2 := blk_frozen BK109.out 2
                            have p111 : 0 ≤ (x4_3 : Int) := of_decide_eq_true (by first | (with_reducible assumption) | assumption)
                            have q111 : x4_3 < (l0_2.length : Int) := of_decide_eq_true (by first | (with_reducible assumption) | assumption)
                            obtain ⟨ad111, e111, hx111_0⟩ := Kd.at_string HR0_2.out x4_3 p111 q111
                            cases e111
                            replace hx111_0 := (HB.out.cell (World.block_lt_of_cell? w _ hx111_0)).trans hx111_0
                            replace p111 := eq_true p111
                            replace q111 := eq_true q111
                            go_wp2
                            go_ret
                            exact ⟨by first | rfl | (simp [errW_none, errW_some] <;> rfl) | (simp [*, errW_none, errW_some] <;> rfl), by repeat (first | (with_reducible first | exact HB.out | apply below_alloc | apply pw_below_drewN | apply below_drew1 | refine below_set ?_ GE109.out) | exact HB.out)⟩
                          · rw [if_neg c20] at H
                            have c20b0 : decide (100 < ((rdOf ByteArray.empty l0_2 x4_3).size : Int)) = false := decide_eq_false c20
                            have c20b1 : decide (100 < (rdOf ByteArray.empty l0_2 x4_3).size) = false := decide_eq_false (by omega)
                            clear c20
                            have H' := Aside0.mk H
                            clear H
                            have hcz22_0 : wc.cell? ⟨gb109, 0, none⟩ = some (.int .i64 a0_0) := (blk_cell BK109.out 0).trans rfl
                            have hcz22_1 : wc.cell? ⟨gb109, 1, none⟩ = some (.slice A0_1 l0_1.length c0_1) := (blk_cell BK109.out 1).trans rfl
                            have hcz22_2 : wc.cell? ⟨gb109, 2, none⟩ = some (.slice A0_2 l0_2.length c0_2) := (blk_cell BK109.out 2).trans rfl
                            have hfz22_0 := blk_frozen BK109.out 0
                            have hfz22_1 := blk_frozen BK109.out 1
                            have hfz22_2 := blk_frozen BK109.out 2
                            have p111 : 0 ≤ (x4_3 : Int) := of_decide_eq_true (by first | (with_reducible assumption) | assumption)
                            have q111 : x4_3 < (l0_2.length : Int) := of_decide_eq_true (by first | (with_reducible assumption) | assumption)
                            obtain ⟨ad111, e111, hx111_0⟩ := Kd.at_string HR0_2.out x4_3 p111 q111
                            cases e111
                            replace hx111_0 := (HB.out.cell (World.block_lt_of_cell? w _ hx111_0)).trans hx111_0
                            replace p111 := eq_true p111
                            replace q111 := eq_true q111
                            go_wp2
                            go_roundg kj12
                            case measure => have := HK1.out; have := HJ2.out; have := HK3.out; have := HJ12.out; omega
                            case rel => exact ⟨(wrap64 (x4_3 + 1)), (by first | rfl | (simp; done) | (simp [*]; done)), H', ⟨by have := HK1.out; have := HJ2.out; have := HK3.out; have := HJ12.out; omega⟩, ⟨by (with_reducible repeat (first | refine blk_drewN ?_ _ | refine blk_drew ?_ | refine blk_alloc ?_ _)); exact BK109.out⟩, ⟨by repeat (first | (with_reducible first | exact HB.out | apply below_alloc | apply pw_below_drewN | apply below_drew1 | refine below_set ?_ GE109.out) | exact HB.out)⟩⟩
                        · rw [if_neg c19] at H
                          exact absurd H (by simp)
                      · rw [if_neg c18] at H
                        exact absurd H (by simp)
                    · replace c17 := Bool.eq_false_iff.mpr c17
                      subst c17
                      have H1 : (if (l0_1.length : Int) ≤ 30 then (some (decide ((l0_2.length : Int) ≤ 30))) else (some false)) = some r := by rw [if_neg (show ¬ (false = true) by decide)] at H; exact H
                      clear H
                      have H := H1
                      clear H1
                      by_cases c23 : (l0_1.length : Int) ≤ 30
                      · rw [if_pos c23] at H
                        have c23b0 : decide ((l0_1.length : Int) ≤ 30) = true := decide_eq_true c23
                        have c23b1 : decide (l0_1.length ≤ 30) = true := decide_eq_true (by omega)
                        clear c23
                        obtain rfl := Option.some.inj H
                        have hcz24_0 : wc.cell? ⟨gb109, 0, none⟩ = some (.int .i64 a0_0) := (blk_cell BK109.out 0).trans rfl
                        have hcz24_1 : wc.cell? ⟨gb109, 1, none⟩ = some (.slice A0_1 l0_1.length c0_1) := (blk_cell BK109.out 1).trans rfl
                        have hcz24_2 : wc.cell? ⟨gb109, 2, none⟩ = some (.slice A0_2 l0_2.length c0_2) := (blk_cell BK109.out 2).trans rfl
                        have hfz24_0 := blk_frozen BK109.out 0
                        have hfz24_1 := blk_frozen BK109.out 1
                        have hfz24_2 := blk_frozen BK109.out 2
                        go_wp2
                        go_ret
                        exact ⟨by first | rfl | (simp [errW_none, errW_some] <;> rfl) | (simp [*, errW_none, errW_some] <;> rfl), by repeat (first | (with_reducible first | exact HB.out | apply below_alloc | apply pw_below_drewN | apply below_drew1 | refine below_set ?_ GE109.out) | exact HB.out)⟩
                      · rw [if_neg c23] at H
                        have c23b0 : decide ((l0_1.length : Int) ≤ 30) = false := decide_eq_false c23
                        have c23b1 : decide (l0_1.length ≤ 30) = false := decide_eq_false (by omega)
                        clear c23
                        obtain rfl := Option.some.inj H
                        have hcz25_0 : wc.cell? ⟨gb109, 0, none⟩ = some (.int .i64 a0_0) := (blk_cell BK109.out 0).trans rfl
                        have hcz25_1 : wc.cell? ⟨gb109, 1, none⟩ = some (.slice A0_1 l0_1.length c0_1) := (blk_cell BK109.out 1).trans rfl
                        have hcz25_2 : wc.cell? ⟨gb109, 2, none⟩ = some (.slice A0_2 l0_2.length c0_2) := (blk_cell BK109.out 2).trans rfl
                        have hfz25_0 := blk_frozen BK109.out 0
                        have hfz25_1 := blk_frozen BK109.out 1
                        have hfz25_2 := blk_frozen BK109.out 2
                        go_wp2
                        go_ret
                        exact ⟨by first | rfl | (simp [errW_none, errW_some] <;> rfl) | (simp [*, errW_none, errW_some] <;> rfl), by repeat (first | (with_reducible first | exact HB.out | apply below_alloc | apply pw_below_drewN | apply below_drew1 | refine below_set ?_ GE109.out) | exact HB.out)⟩
end Go.Proofs.YteleheamnighkaaDoor.PBase
end
section
set_option linter.unusedVariables false
set_option linter.unusedSimpArgs false
namespace Go.Proofs.YteleheamnighkaaDoor
open Go.RowKit Go.Proofs.YteleheamnighkaaDoorW.PrintWords
namespace BaseFacts
theorem w63 (n : Nat) (h : n < 9223372036854775807) : wrap64 ((n : Int) + 1) = ((n + 1 : Nat) : Int) := by unfold wrap64; omega
theorem rdOf_at (l : List ByteArray) (i : Nat) (h : i < l.length) : rdOf ByteArray.empty l (i : Int) = l[i] := by simp [rdOf, List.getD, h]
theorem all_take_succ {α : Type} (p : α → Bool) (l : List α) (i : Nat) (h : i < l.length) (ht : (l.take i).all p = true) (hp : p l[i] = true) : (l.take (i + 1)).all p = true := by
  rw [List.take_succ_eq_append_getElem h, List.all_append, ht]; simp [hp]
theorem all_no {α : Type} (p : α → Bool) (l : List α) (i : Nat) (h : i < l.length) (hp : p l[i] = false) : l.all p = false := by
  rw [List.all_eq_false]
  exact ⟨l[i], List.getElem_mem h, by simp [hp]⟩
def shortT (l : List ByteArray) : Bool := l.all (fun s => decide (s.size ≤ 300))
theorem short_l0 (l : List ByteArray) (hl : l.length ≤ 9223372036854775807) : ∀ (d i k : Nat), i + d = l.length → d < k → (l.take i).all (fun s => decide (s.size ≤ 300)) = true →
    PBase.planispherelaw02_short.l0 k l i = some (shortT l) := by
  intro d
  induction d with
  | zero =>
    intro i k hi hk ht
    obtain ⟨k, rfl⟩ : ∃ n, k = n + 1 := ⟨k - 1, by omega⟩
    simp only [PBase.planispherelaw02_short.l0]
    rw [if_neg (by omega)]
    rw [List.take_of_length_le (by omega)] at ht
    unfold shortT; rw [ht]
  | succ d ih =>
    intro i k hi hk ht
    obtain ⟨k, rfl⟩ : ∃ n, k = n + 1 := ⟨k - 1, by omega⟩
    have hlt : i < l.length := by omega
    simp only [PBase.planispherelaw02_short.l0]
    rw [if_pos (by omega), if_pos (by omega), rdOf_at l i hlt]
    by_cases hs : ((l[i]).size : Int) > 300
    · rw [if_pos hs]
      unfold shortT
      rw [all_no (fun s => decide (s.size ≤ 300)) l i hlt (by simp; omega)]
    · rw [if_neg hs, w63 i (by omega)]
      exact ih (i + 1) k (by omega) (by omega) (all_take_succ _ l i hlt ht (by simp; omega))
theorem short_f (l : List ByteArray) (hl : l.length ≤ 9223372036854775807) : PBase.planispherelaw02_short.f (l.length + 1) l = some (shortT l) :=
  short_l0 l hl l.length 0 _ (by omega) (by omega) rfl
def fewS (s p : List ByteArray) : Bool := (s.take 30).all (fun x => decide (x.size ≤ 100)) && ((p.take 30).all (fun x => decide (x.size ≤ 100)) && (decide (s.length ≤ 30) && decide (p.length ≤ 30)))
end BaseFacts
end Go.Proofs.YteleheamnighkaaDoor
end
section
set_option linter.unusedVariables false
set_option linter.unusedSimpArgs false
namespace Go.Proofs.YteleheamnighkaaDoor
open Go.RowKit Go.DoorKit Go.Proofs.YteleheamnighkaaDoorW.PrintWords
def Len63 (n : Nat) : Prop := n ≤ 9223372036854775807
instance (n : Nat) : Decidable (Len63 n) := inferInstanceAs (Decidable (n ≤ 9223372036854775807))
theorem Len63.out {n : Nat} (h : Len63 n) : n ≤ 9223372036854775807 := h
theorem if_out {α : Type} {c : Prop} [Decidable c] {x r : α} (h : (if c then some x else none) = some r) : c ∧ x = r := by
  split at h
  · exact ⟨‹_›, Option.some.inj h⟩
  · cases h
def planisphereref01_Is.f (a0 : ByteArray) : Option Bool := if Big a0.size then some (Dig.isD (tx a0)) else none
def planispherelaw02_short.f (l0 : List ByteArray) : Option Bool := if Len63 l0.length then some (BaseFacts.shortT l0) else none
theorem planispherelaw02_short.calls (A0 : Option Addr) (c0 : Nat) (l0 : List ByteArray) (r : Bool) (w : World) (hr0 : Kd.C Kd.string w A0 l0.length l0) (hc0 : l0.length ≤ c0) (h : planispherelaw02_short.f l0 = some r) :
    Calls Tryd.prog 26 #[.slice A0 l0.length c0] w fun e w' => e = .returned (.bool r) ∧ Drawn0 w w' := by
  obtain ⟨hb, rfl⟩ := if_out h
  exact PBase.planispherelaw02_short.calls _ A0 c0 l0 _ w hr0 hc0 (BaseFacts.short_f l0 hb.out)
end Go.Proofs.YteleheamnighkaaDoor
end
section
namespace Go.Proofs.YteleheamnighkaaDoor.PHd
open Go.RowKit Go.Proofs.YteleheamnighkaaDoorW.PrintWords Go.Proofs.YteleheamnighkaaDoorW.PrintLast Go.Proofs.YteleheamnighkaaDoorW.PrintMore
attribute [local go_sem] max2_int min2_int max_two min_two max_three min_three max_four min_four   -- for this text's walks alone
set_option linter.unusedVariables false
set_option linter.unusedSimpArgs false
def errW : Option Int → Value
  | none => .nilIface
  | some c => .iface 0 (.int .i64 c)
theorem errW_none : errW none = .nilIface := rfl
theorem errW_some (c : Int) : errW (some c) = .iface 0 (.int .i64 c) := rfl
theorem info9 : (Tryd.prog.info? 9).map (fun i => (i.zero, i.size, i.bytes)) = some (some (.string ⟨#[]⟩), 1, 16) := by kernel_rfl
end Go.Proofs.YteleheamnighkaaDoor.PHd
end
section
set_option linter.unusedVariables false
set_option linter.unusedSimpArgs false
namespace Go.Proofs.YteleheamnighkaaDoor
open Go.RowKit Go.Proofs.YteleheamnighkaaDoorW.PrintWords
theorem dSum (s : ByteArray) (h : s.size ≤ 140737488355328) : digest_Sum.f s = some (ofT (Dig.sum (tx s))) := if_pos h
theorem dList (l : List ByteArray) (h : need l ≤ 140737488355328) : digest_List.f l = some (ofT (Dig.sum (Dig.joined (l.map tx)))) := if_pos h
end Go.Proofs.YteleheamnighkaaDoor
end
section
set_option linter.unusedVariables false
namespace Go.Proofs.YteleheamnighkaaDoor
open Go.RowKit Go.DoorKit Go.Proofs.YteleheamnighkaaDoorW.PrintWords
def strconv_Itoa.f (a0 : Int) : Option ByteArray := if 0 ≤ a0 ∧ a0 ≤ 140737488355328 then some (ofT (Lib.decDigits a0.toNat)) else none
theorem strconv_Itoa.calls (a0 : Int) (r : ByteArray) (w : World) (h : strconv_Itoa.f a0 = some r) (hG : Glob w) :
    Calls Tryd.prog 43 #[.int .i64 a0] w fun e w' => e = .returned (.string r) ∧ Below w.heap.size w w' := by
  obtain ⟨hb, rfl⟩ := if_out h
  refine (itoa_any a0 hb.1 (Int.le_trans hb.2 (by decide)) w hG).mono ?_
  rintro e w' ⟨⟨t, rfl, ht, _⟩, hbel⟩
  refine ⟨?_, hbel⟩
  congr 2
  exact tx_inj ht.out
end Go.Proofs.YteleheamnighkaaDoor
end
section
set_option linter.unusedVariables false
set_option linter.unusedSimpArgs false
namespace Go.Proofs.YteleheamnighkaaDoor
open Go.RowKit Go.Proofs.YteleheamnighkaaDoorW.PrintWords
namespace Pure
theorem need_of : ∀ {l : List ByteArray} {m : Nat}, (∀ s ∈ l, s.size ≤ m) → need l ≤ l.length * (m + 21)
  | [], m, _ => by simp [need]
  | s :: l, m, h => by
    have ih := need_of (l := l) (m := m) (fun x hx => h x (by simp [hx]))
    have e : need (s :: l) = s.size + 21 + need l := rfl
    have := h s (by simp)
    rw [e, List.length_cons, Nat.add_mul]; omega
theorem sum_hex (l : List UInt8) : ∀ c ∈ Dig.sum l, Dig.isHex c = true := by
  intro c hc
  unfold Dig.sum Dig.hex at hc
  simp only [List.mem_map] at hc
  obtain ⟨i, _, rfl⟩ := hc
  have : ∀ t : Fin 16, Dig.isHex (Dig.hexd t.val) = true := by decide +kernel
  exact this ⟨_, Nat.mod_lt _ (by decide)⟩
theorem isD_len {l : List UInt8} (h : l.length ≠ 16) : Dig.isD l = false := by
  unfold Dig.isD; rw [show (l.length == 16) = false by simpa using h, Bool.false_and]
end Pure
end Go.Proofs.YteleheamnighkaaDoor
end
section
namespace Go.Dig
open Go.Lib
abbrev Txt := List UInt8
def lst (l : List Txt) : Txt := sum (joined l)
def hexv (c : UInt8) : Nat := if c.toNat < 58 then c.toNat - 48 else c.toNat - 87
def chain (t : Txt) : Nat → Txt
  | 0 => t
  | n + 1 => sum (chain t n)
theorem chain_sum (t : Txt) (n : Nat) : chain (sum t) n = chain t (n + 1) := by
  induction n with
  | zero => rfl
  | succ n ih => rw [chain, ih]; rfl
theorem chain_add (t : Txt) (a : Nat) : ∀ b : Nat, chain (chain t a) b = chain t (a + b)
  | 0 => rfl
  | b + 1 => by rw [chain, chain_add t a b]; rfl
def restOf (d : List Nat) : Nat := (d.map (15 - ·)).sum
def digits (m : Txt) : List Nat :=
  let d := (sum m).map hexv
  d ++ [restOf d / 16, restOf d % 16]
def startT (secret : Txt) (i k : Nat) : Txt := joined [secret, decDigits i, decDigits k]
def start0 (secret : Txt) (i k : Nat) : Txt := sum (startT secret i k)
def endsOf (secret : Txt) (i : Nat) : List Txt := (List.range 18).map fun k => chain (start0 secret i k) 15
def keyT (secret : Txt) (i : Nat) : Txt := joined (endsOf secret i)
def word : Txt := [110, 111, 100, 101]
def nodeT (a b : Txt) : Txt := joined [word, a, b]
def tree (secret : Txt) : Nat → Nat → Txt
  | 0, i => sum (keyT secret i)
  | j + 1, i => sum (nodeT (tree secret j (2 * i)) (tree secret j (2 * i + 1)))
def sib (x : Nat) : Nat := if x % 2 = 0 then x + 1 else x - 1
def stepT (at_ p : Txt) (i : Nat) : Txt := if i % 2 = 1 then nodeT p at_ else nodeT at_ p
def climb (at_ : Txt) (i : Nat) : List Txt → Txt
  | [] => at_
  | p :: ps => climb (sum (stepT at_ p i)) (i / 2) ps
theorem climb_snoc : ∀ (ps : List Txt) (at_ p : Txt) (i : Nat), climb at_ i (ps ++ [p]) = sum (stepT (climb at_ i ps) p (i / 2 ^ ps.length))
  | [], at_, p, i => by simp [climb]
  | q :: ps, at_, p, i => by
    rw [List.cons_append, climb, climb_snoc ps, climb, List.length_cons, Nat.pow_succ, Nat.mul_comm, ← Nat.div_div_eq_div_mul]
end Go.Dig
end
section
namespace Go.Proofs.YteleheamnighkaaDoor.PCa
open Go.RowKit Go.Proofs.YteleheamnighkaaDoorW.PrintWords Go.Proofs.YteleheamnighkaaDoorW.PrintLast Go.Proofs.YteleheamnighkaaDoorW.PrintMore
attribute [local go_sem] max2_int min2_int max_two min_two max_three min_three max_four min_four   -- for this text's walks alone
set_option linter.unusedVariables false
set_option linter.unusedSimpArgs false
def errW : Option Int → Value
  | none => .nilIface
  | some c => .iface 0 (.int .i64 c)
theorem errW_none : errW none = .nilIface := rfl
theorem errW_some (c : Int) : errW (some c) = .iface 0 (.int .i64 c) := rfl
end Go.Proofs.YteleheamnighkaaDoor.PCa
end
section
namespace Go.Proofs.YteleheamnighkaaDoor.PCa
open Go.RowKit Go.Proofs.YteleheamnighkaaDoorW.PrintWords Go.Proofs.YteleheamnighkaaDoorW.PrintLast Go.Proofs.YteleheamnighkaaDoorW.PrintMore
attribute [local go_sem] max2_int min2_int max_two min_two max_three min_three max_four min_four   -- for this text's walks alone
set_option linter.unusedVariables false
set_option linter.unusedSimpArgs false
def seal_chain.l0 : Nat → ByteArray → Int → Int → Option (ByteArray)
  | 0, _, _, _ => none
  | k + 1, x0, x5, x6 => if x6 < x5 then ((digest_Sum.f x0).bind fun t104 => (seal_chain.l0 k t104 x5 (wrap64 (x6 + 1)))) else (some x0)
def seal_chain.f (k : Nat) (a0 : ByteArray) (a1 : Int) : Option (ByteArray) := seal_chain.l0 k a0 a1 0
set_option maxHeartbeats 8000000 in
set_option maxRecDepth 100000 in
theorem seal_chain.calls (k : Nat) (a0 : ByteArray) (a1 : Int) (r : ByteArray) (w : World) (h : seal_chain.f k a0 a1 = some r) :
    Calls Tryd.prog 53 #[.string a0, .int .i64 a1] w fun e w' => e = .returned (.string r) ∧ Below w.heap.size w w' := by
  have HB := Aside0.mk (Below.refl w.heap.size w)
  have H : (seal_chain.l0 k a0 a1 0) = some r := h
  clear h
  have H' := Aside0.mk H
  clear H
  go_enter Tryd.func53, Tryd.ntmps53
  go_wp2
  go_loopg [0, 6] k (fun kq v0 v6 w' => ∃ (x0_1 : ByteArray) (x6_1 : Int), v0 = .string x0_1 ∧ v6 = .int .i64 x6_1 ∧ Aside0 (seal_chain.l0 kq x0_1 a1 x6_1 = some r) ∧ Aside0 (kq ≤ k) ∧ Aside0 (Below w.heap.size w w'))
  case atStart => exact ⟨(a0), (0), (by first | rfl | (simp; done) | (simp [*]; done)), (by first | rfl | (simp; done) | (simp [*]; done)), H', ⟨Nat.le_refl _⟩, ⟨by repeat (first | (with_reducible first | exact HB.out | apply below_alloc | apply pw_below_drewN | apply below_drew1) | exact HB.out)⟩⟩
  case round =>
    clear H'
    try clear p2
    obtain ⟨x0_1, x6_1, rfl, rfl, HA, HK1, HB⟩ := hrel
    cases gk with
    | zero => exact absurd HA.out (by simp [seal_chain.l0])
    | succ k1 =>
      have H := HA.out
      clear HA
      simp only [seal_chain.l0] at H
      by_cases c3 : x6_1 < a1
      · rw [if_pos c3] at H
        have c3b0 : decide (x6_1 < a1) = true := decide_eq_true c3
        clear c3
        replace H := Option.bind_eq_some_iff.mp H
        obtain ⟨t104, A40, H⟩ := H
        replace H : (seal_chain.l0 k1 t104 a1 (wrap64 (x6_1 + 1))) = some r := H
        have A4 := Aside0.mk A40
        clear A40
        have H' := Aside0.mk H
        clear H
        go_wp2_with (first | ((with_reducible refine gate_callee (f := 17) rfl ?_); refine goesL_ (some 9) rfl rfl Tryd.func17 (by kernel_rfl) rfl #[.string x0_1] rfl (by (try simp only [List.map_toArray, List.map_cons, List.map_nil]); first | done | rfl | (simp only [List.length_drop, List.length_take]; rfl)) ?_; (with_reducible refine (digest_Sum.calls x0_1 t104 _ A4.out).mono ?_); clear A4; rintro e w5 ⟨rfl, hb⟩; refine ⟨_, rfl, ?_⟩; have n0_ := Aside0.mk (below_step (by repeat (first | (with_reducible first | exact HB.out | apply below_alloc | apply pw_below_drewN | apply below_drew1) | exact HB.out)) hb); clear HB; have HB := n0_; clear n0_; (try clear hb); (try clear hb2); (try clear hk); (try clear hi)))
        go_roundg k1
        case measure => have := HK1.out; omega
        case rel => exact ⟨(t104), (wrap64 (x6_1 + 1)), (by first | rfl | (simp; done) | (simp [*]; done)), (by first | rfl | (simp; done) | (simp [*]; done)), H', ⟨by have := HK1.out; omega⟩, ⟨by repeat (first | (with_reducible first | exact HB.out | apply below_alloc | apply pw_below_drewN | apply below_drew1) | exact HB.out)⟩⟩
      · rw [if_neg c3] at H
        have c3b0 : decide (x6_1 < a1) = false := decide_eq_false c3
        clear c3
        obtain rfl := Option.some.inj H
        go_wp2
        go_ret
        exact ⟨by first | rfl | (simp [errW_none, errW_some] <;> rfl) | (simp [*, errW_none, errW_some] <;> rfl), by repeat (first | (with_reducible first | exact HB.out | apply below_alloc | apply pw_below_drewN | apply below_drew1) | exact HB.out)⟩
def seal_of.f (l0 : List ByteArray) : Option (ByteArray) := (digest_List.f l0).bind fun t105 => (some t105)
set_option maxHeartbeats 8000000 in
set_option maxRecDepth 100000 in
theorem seal_of.calls (A0 : Option Addr) (c0 : Nat) (l0 : List ByteArray) (r : ByteArray) (w : World) (hr0 : Kd.C Kd.string w A0 l0.length l0) (hc0 : l0.length ≤ c0) (h : seal_of.f l0 = some r) (hG : Glob w) :
    Calls Tryd.prog 63 #[.slice A0 l0.length c0] w fun e w' => e = .returned (.string r) ∧ Below w.heap.size w w' := by
  have HG_ := Aside0.mk hG
  clear hG
  have HR0 := Aside0.mk hr0
  have HC0 := Aside0.mk hc0
  clear hr0 hc0
  have HB := Aside0.mk (Below.refl w.heap.size w)
  have H : ((digest_List.f l0).bind fun t105 => (some t105)) = some r := h
  clear h
  replace H := Option.bind_eq_some_iff.mp H
  obtain ⟨t105, A20, H⟩ := H
  replace H : (some t105) = some r := H
  have A2 := Aside0.mk A20
  clear A20
  obtain rfl := Option.some.inj H
  go_enter Tryd.func63, Tryd.ntmps63
  go_wp2_with (first | ((with_reducible refine gate_callee (f := 19) rfl ?_); refine goesL_ (some 4) rfl rfl Tryd.func19 (by kernel_rfl) rfl #[.slice A0 l0.length c0] rfl (by (try simp only [List.map_toArray, List.map_cons, List.map_nil]); first | done | rfl | (simp only [List.length_drop, List.length_take]; rfl)) ?_; (with_reducible refine (digest_List.calls _ _ l0 t105 _ ?side1 ?side2 A2.out (hG := ?hGl)).mono ?_); clear A2; (case hGl => exact (Glob.below HG_.out (by repeat (first | (with_reducible first | exact HB.out | apply below_alloc | apply pw_below_drewN | apply below_drew1) | exact HB.out)))); (case side1 => repeat (first | exact HR0.out | (with_reducible refine Kd.C_alloc ?_ _) | (with_reducible refine Kd.C_drewN ?_ _) | (with_reducible refine Kd.C_drew ?_))); (case side2 => exact HC0.out); rintro e w3 ⟨rfl, hb⟩; refine ⟨_, rfl, ?_⟩; have n0_ := Aside0.mk (below_step (by repeat (first | (with_reducible first | exact HB.out | apply below_alloc | apply pw_below_drewN | apply below_drew1) | exact HB.out)) hb); clear HB; have HB := n0_; clear n0_; (try clear hb); (try clear hb2); (try clear hk); (try clear hi)))
  go_ret
  exact ⟨by first | rfl | (simp [errW_none, errW_some] <;> rfl) | (simp [*, errW_none, errW_some] <;> rfl), by repeat (first | (with_reducible first | exact HB.out | apply below_alloc | apply pw_below_drewN | apply below_drew1) | exact HB.out)⟩
def planisphereref01_Digit.j0 : Nat → Int → Bool → Option (Int)
  | 0, _, _ => none
  | k + 1, x0, x8 => if x8 = true then (some ((x0 - 48) % 256)) else (if x0 ≥ 97 then (if x0 ≤ 102 then (some (((x0 - 97) % 256) + 10)) else (some (-1))) else (some (-1)))
def planisphereref01_Digit.f (k : Nat) (a0 : Int) : Option (Int) := if a0 ≥ 48 then (planisphereref01_Digit.j0 k a0 (decide (a0 ≤ 57))) else (planisphereref01_Digit.j0 k a0 false)
end Go.Proofs.YteleheamnighkaaDoor.PCa
end
section
set_option linter.unusedVariables false
set_option linter.unusedSimpArgs false
namespace Go.Proofs.YteleheamnighkaaDoor
open Go.RowKit Go.DoorKit Go.Proofs.YteleheamnighkaaDoorW.PrintWords
theorem sum_big (l : List UInt8) : (ofT (Dig.sum l)).size ≤ 140737488355328 := by rw [size_ofT, Dig.sum_len]; decide
theorem chain_step (t : ByteArray) (d : Nat) : ofT (Dig.chain (tx (ofT (Dig.sum (tx t)))) d) = ofT (Dig.chain (tx t) (d + 1)) := by rw [tx_ofT, Dig.chain_sum]
theorem wrap_succ (i : Nat) (h : i ≤ 4000) : wrap64 ((i : Int) + 1) = ((i + 1 : Nat) : Int) := by unfold wrap64; omega
theorem schain_l0 (n : Nat) (hn : n ≤ 1000) : ∀ (d i : Nat) (x : ByteArray), i + d = n → x.size ≤ 140737488355328 → PCa.seal_chain.l0 (d + 1) x n i = some (ofT (Dig.chain (tx x) d))
  | 0, i, x, h, hx => by
    rw [PCa.seal_chain.l0, if_neg (by omega)]; rfl
  | d + 1, i, x, h, hx => by
    rw [PCa.seal_chain.l0, if_pos (by omega), dSum x hx, Option.bind_some, wrap_succ i (by omega), schain_l0 n hn d (i + 1) _ (by omega) (sum_big _), chain_step]
theorem below_of_drawn {w w' : World} (h : Drawn0 w w') : Below w.heap.size w w' := by
  obtain ⟨nd, rfl⟩ := h
  exact pw_below_drewN (Below.refl _ _) _
def Links (s : ByteArray) (n : Int) : Prop := s.size ≤ 140737488355328 ∧ 0 ≤ n ∧ n ≤ 1000
instance (s : ByteArray) (n : Int) : Decidable (Links s n) := inferInstanceAs (Decidable (s.size ≤ 140737488355328 ∧ 0 ≤ n ∧ n ≤ 1000))
theorem Links.mk {s : ByteArray} {n : Int} (h : s.size ≤ 140737488355328) (h0 : 0 ≤ n) (h1 : n ≤ 1000) : Links s n := ⟨h, h0, h1⟩
def seal_chain.f (a0 : ByteArray) (a1 : Int) : Option ByteArray := if Links a0 a1 then some (ofT (Dig.chain (tx a0) a1.toNat)) else none
theorem seal_chain.calls (a0 : ByteArray) (a1 : Int) (r : ByteArray) (w : World) (h : seal_chain.f a0 a1 = some r) :
    Calls Tryd.prog 53 #[.string a0, .int .i64 a1] w fun e w' => e = .returned (.string r) ∧ Below w.heap.size w w' := by
  obtain ⟨⟨h0, h1, h2⟩, rfl⟩ := if_out h
  obtain ⟨n, rfl⟩ := Int.eq_ofNat_of_zero_le h1
  exact PCa.seal_chain.calls (n + 1) a0 n _ w (schain_l0 n (by omega) n 0 a0 (by omega) h0)
def seal_of.f (l0 : List ByteArray) : Option ByteArray := if Big (need l0) then some (ofT (Dig.lst (l0.map tx))) else none
theorem seal_of.calls (A0 : Option Addr) (c0 : Nat) (l0 : List ByteArray) (r : ByteArray) (w : World) (hr0 : Kd.C Kd.string w A0 l0.length l0) (hc0 : l0.length ≤ c0) (h : seal_of.f l0 = some r) (hG : Glob w) :
    Calls Tryd.prog 63 #[.slice A0 l0.length c0] w fun e w' => e = .returned (.string r) ∧ Below w.heap.size w w' := by
  obtain ⟨hb, rfl⟩ := if_out h
  refine PCa.seal_of.calls A0 c0 l0 _ w hr0 hc0 ?_ hG
  unfold PCa.seal_of.f
  rw [dList l0 hb, Option.bind_some]; rfl
def HexC (n : Int) : Prop := 48 ≤ n ∧ n ≤ 57 ∨ 97 ≤ n ∧ n ≤ 102
instance (n : Int) : Decidable (HexC n) := inferInstanceAs (Decidable (48 ≤ n ∧ n ≤ 57 ∨ 97 ≤ n ∧ n ≤ 102))
def hexI (n : Int) : Int := if n ≤ 57 then n - 48 else n - 87
def planisphereref01_Digit.f (a0 : Int) : Option Int := if HexC a0 then some (hexI a0) else none
theorem planispherelaw02_short.callsB (A0 : Option Addr) (c0 : Nat) (l0 : List ByteArray) (r : Bool) (w : World) (hr0 : Kd.C Kd.string w A0 l0.length l0) (hc0 : l0.length ≤ c0) (h : planispherelaw02_short.f l0 = some r) :
    Calls Tryd.prog 26 #[.slice A0 l0.length c0] w fun e w' => e = .returned (.bool r) ∧ Below w.heap.size w w' := by
  refine (planispherelaw02_short.calls A0 c0 l0 r w hr0 hc0 h).mono ?_
  rintro e w' ⟨rfl, hd⟩
  exact ⟨rfl, below_of_drawn hd⟩
end Go.Proofs.YteleheamnighkaaDoor
end
section
namespace Go.Proofs.YteleheamnighkaaDoor.PCb
open Go.RowKit Go.Proofs.YteleheamnighkaaDoorW.PrintWords Go.Proofs.YteleheamnighkaaDoorW.PrintLast Go.Proofs.YteleheamnighkaaDoorW.PrintMore
attribute [local go_sem] max2_int min2_int max_two min_two max_three min_three max_four min_four   -- for this text's walks alone
set_option linter.unusedVariables false
set_option linter.unusedSimpArgs false
def errW : Option Int → Value
  | none => .nilIface
  | some c => .iface 0 (.int .i64 c)
theorem errW_none : errW none = .nilIface := rfl
theorem errW_some (c : Int) : errW (some c) = .iface 0 (.int .i64 c) := rfl
theorem info9 : (Tryd.prog.info? 9).map (fun i => (i.zero, i.size, i.bytes)) = some (some (.string ⟨#[]⟩), 1, 16) := by kernel_rfl
end Go.Proofs.YteleheamnighkaaDoor.PCb
end
section
namespace Go.Proofs.YteleheamnighkaaDoor.PCb
open Go.RowKit Go.Proofs.YteleheamnighkaaDoorW.PrintWords Go.Proofs.YteleheamnighkaaDoorW.PrintLast Go.Proofs.YteleheamnighkaaDoorW.PrintMore
attribute [local go_sem] max2_int min2_int max_two min_two max_three min_three max_four min_four   -- for this text's walks alone
set_option linter.unusedVariables false
set_option linter.unusedSimpArgs false
def seal_start.f (a0 : ByteArray) (a1 : Int) (a2 : Int) : Option (ByteArray) := (strconv_Itoa.f a1).bind fun t152 => ((strconv_Itoa.f a2).bind fun t153 => ((seal_of.f (([a0, t152, t153] : List ByteArray))).bind fun t157 => (some t157)))
set_option maxHeartbeats 8000000 in
set_option maxRecDepth 100000 in
theorem seal_start.calls (a0 : ByteArray) (a1 : Int) (a2 : Int) (r : ByteArray) (w : World) (h : seal_start.f a0 a1 a2 = some r) (hG : Glob w) :
    Calls Tryd.prog 54 #[.string a0, .int .i64 a1, .int .i64 a2] w fun e w' => e = .returned (.string r) ∧ Below w.heap.size w w' := by
  have HG_ := Aside0.mk hG
  clear hG
  have HB := Aside0.mk (Below.refl w.heap.size w)
  have H : ((strconv_Itoa.f a1).bind fun t152 => ((strconv_Itoa.f a2).bind fun t153 => ((seal_of.f (([a0, t152, t153] : List ByteArray))).bind fun t157 => (some t157)))) = some r := h
  clear h
  replace H := Option.bind_eq_some_iff.mp H
  obtain ⟨t152, A40, H⟩ := H
  replace H : ((strconv_Itoa.f a2).bind fun t153 => ((seal_of.f (([a0, t152, t153] : List ByteArray))).bind fun t157 => (some t157))) = some r := H
  have A4 := Aside0.mk A40
  clear A40
  replace H := Option.bind_eq_some_iff.mp H
  obtain ⟨t153, A50, H⟩ := H
  replace H : ((seal_of.f (([a0, t152, t153] : List ByteArray))).bind fun t157 => (some t157)) = some r := H
  have A5 := Aside0.mk A50
  clear A50
  obtain ⟨y154, hy154⟩ : ∃ y_ : List ByteArray, y_ = (([a0, t152, t153] : List ByteArray)) := ⟨_, rfl⟩
  replace H : ((seal_of.f y154).bind fun t157 => (some t157)) = some r := by first | (rw [hy154]; with_reducible exact H) | (have H2_ := (Option.bind_some _ _).symm.trans H; rw [hy154]; with_reducible exact H2_) | (have H2_ := (Option.bind_some _ _).symm.trans H; with_reducible exact H2_) | with_reducible exact H | (rw [hy154]; exact H) | exact H
  have Ny154 := Aside0.mk hy154
  clear hy154
  replace H := Option.bind_eq_some_iff.mp H
  obtain ⟨t157, A60, H⟩ := H
  replace H : (some t157) = some r := H
  have A6 := Aside0.mk A60
  clear A60
  obtain rfl := Option.some.inj H
  go_enter Tryd.func54, Tryd.ntmps54
  go_wp2_with (first | ((with_reducible refine gate_callee (f := 43) rfl ?_); refine goesL_ (some 9) rfl rfl Tryd.func43 (by kernel_rfl) rfl #[.int .i64 a1] rfl (by (try simp only [List.map_toArray, List.map_cons, List.map_nil]); first | done | rfl | (simp only [List.length_drop, List.length_take]; rfl)) ?_; (with_reducible refine (strconv_Itoa.calls a1 t152 _ A4.out (hG := ?hGl)).mono ?_); clear A4; (case hGl => exact (Glob.below HG_.out (by repeat (first | (with_reducible first | exact HB.out | apply below_alloc | apply pw_below_drewN | apply below_drew1) | exact HB.out)))); rintro e w7 ⟨rfl, hb⟩; refine ⟨_, rfl, ?_⟩; have n0_ := Aside0.mk (below_step (by repeat (first | (with_reducible first | exact HB.out | apply below_alloc | apply pw_below_drewN | apply below_drew1) | exact HB.out)) hb); clear HB; have HB := n0_; clear n0_; (try clear hb); (try clear hb2); (try clear hk); (try clear hi)) | ((with_reducible refine gate_callee (f := 43) rfl ?_); refine goesL_ (some 11) rfl rfl Tryd.func43 (by kernel_rfl) rfl #[.int .i64 a2] rfl (by (try simp only [List.map_toArray, List.map_cons, List.map_nil]); first | done | rfl | (simp only [List.length_drop, List.length_take]; rfl)) ?_; (with_reducible refine (strconv_Itoa.calls a2 t153 _ A5.out (hG := ?hGl)).mono ?_); clear A5; (case hGl => exact (Glob.below HG_.out (by repeat (first | (with_reducible first | exact HB.out | apply below_alloc | apply pw_below_drewN | apply below_drew1) | exact HB.out)))); rintro e w8 ⟨rfl, hb⟩; refine ⟨_, rfl, ?_⟩; have n0_ := Aside0.mk (below_step (by repeat (first | (with_reducible first | exact HB.out | apply below_alloc | apply pw_below_drewN | apply below_drew1) | exact HB.out)) hb); clear HB; have HB := n0_; clear n0_; (try clear hb); (try clear hb2); (try clear hk); (try clear hi)) | ((with_reducible refine gate_dst (N := 12) rfl ?_); refine Kd.R_lit Kd.string _ 9 ?hg (N := 12) ?hd (xs := ([a0, t152, t153] : List ByteArray)) (inner := [.string a0, .string t152, .string t153]) (ok := fun _ => True) (okp := fun _ => True) ?hr ?hp (fun _ hk => hk) trivial (Below.refl _ _) (Nat.le_refl _) (by simp) ?_; (case hd => rfl); (case hg => rfl); (case hr => first | (go_simp; done) | (go_simp; rfl)); (case hp => exact (Reps.one (show Kd.M Kd.string _ _ _ a0 [.string a0] from rfl) (Reps.one (show Kd.M Kd.string _ _ _ t152 [.string t152] from rfl) (Reps.one (show Kd.M Kd.string _ _ _ t153 [.string t153] from rfl) (Reps.none _ _))))); intro v155 w9 ho10 hb hg_ hnew_; clear hg_ hnew_; (first | rw [← Ny154.out] at ho10 | (simp only [Int.reduceToNat] at ho10; rw [← Ny154.out] at ho10)); have n0_ := Aside0.mk (Kd.R_lower ho10 (below_size (by repeat (first | (with_reducible first | exact HB.out | apply below_alloc | apply pw_below_drewN | apply below_drew1) | exact HB.out)))); have n1_ := Aside0.mk (below_step (by repeat (first | (with_reducible first | exact HB.out | apply below_alloc | apply pw_below_drewN | apply below_drew1) | exact HB.out)) hb); clear HB; have HO156 := n0_; have HB := n1_; clear n0_ n1_; clear hb ho10; obtain ⟨Ao11, co11, eo11⟩ := Kd.R_slice HO156.out; subst eo11) | ((with_reducible refine gate_callee (f := 63) rfl ?_); refine goesL_ (some 13) rfl rfl Tryd.func63 (by kernel_rfl) rfl #[.slice Ao11 y154.length co11] rfl (by (try simp only [List.map_toArray, List.map_cons, List.map_nil]); first | done | rfl | (simp only [List.length_drop, List.length_take]; rfl)) ?_; (with_reducible refine (seal_of.calls _ _ y154 t157 _ ?side1 ?side2 A6.out (hG := ?hGl)).mono ?_); clear A6; (case hGl => exact (Glob.below HG_.out (by repeat (first | (with_reducible first | exact HB.out | apply below_alloc | apply pw_below_drewN | apply below_drew1) | exact HB.out)))); (case side1 => repeat (first | exact (Kd.R_reads' HO156.out).2.2 | (with_reducible refine Kd.C_alloc ?_ _) | (with_reducible refine Kd.C_drewN ?_ _) | (with_reducible refine Kd.C_drew ?_))); (case side2 => exact (Kd.R_reads' HO156.out).2.1); rintro e w12 ⟨rfl, hb⟩; refine ⟨_, rfl, ?_⟩; have n0_ := Aside0.mk (Kd.R_below (by (with_reducible repeat (first | apply Kd.R_alloc | apply Kd.R_drewN | apply Kd.R_drew)); exact HO156.out) hb); have n1_ := Aside0.mk (below_step (by repeat (first | (with_reducible first | exact HB.out | apply below_alloc | apply pw_below_drewN | apply below_drew1) | exact HB.out)) hb); clear HO156; clear HB; have HO156 := n0_; have HB := n1_; clear n0_ n1_; (try clear hb); (try clear hb2); (try clear hk); (try clear hi)))
  go_ret
  exact ⟨by first | rfl | (simp [errW_none, errW_some] <;> rfl) | (simp [*, errW_none, errW_some] <;> rfl), by repeat (first | (with_reducible first | exact HB.out | apply below_alloc | apply pw_below_drewN | apply below_drew1) | exact HB.out)⟩
def seal_key.l0 : Nat → ByteArray → Int → List ByteArray → Int → Option (ByteArray)
  | 0, _, _, _, _ => none
  | k + 1, x0, x1, x5, x7 => if x7 < 18 then ((seal_start.f x0 x1 x7).bind fun t158 => ((seal_chain.f t158 15).bind fun t159 => (if x5.length < 8796093022208 then (seal_key.l0 k x0 x1 (x5 ++ [t159]) (wrap64 (x7 + 1))) else (none)))) else ((seal_of.f x5).bind fun t163 => (some t163))
def seal_key.f (k : Nat) (a0 : ByteArray) (a1 : Int) : Option (ByteArray) := seal_key.l0 k a0 a1 ([] : List ByteArray) 0
set_option maxHeartbeats 8000000 in
set_option maxRecDepth 100000 in
theorem seal_key.calls (k : Nat) (a0 : ByteArray) (a1 : Int) (r : ByteArray) (w : World) (h : seal_key.f k a0 a1 = some r) (hG : Glob w) :
    Calls Tryd.prog 79 #[.string a0, .int .i64 a1] w fun e w' => e = .returned (.string r) ∧ Below w.heap.size w w' := by
  have HG_ := Aside0.mk hG
  clear hG
  have HB := Aside0.mk (Below.refl w.heap.size w)
  have H : (seal_key.l0 k a0 a1 ([] : List ByteArray) 0) = some r := h
  clear h
  have H' := Aside0.mk H
  clear H
  go_enter Tryd.func79, Tryd.ntmps79
  go_wp2
  go_loopg [5, 7] k (fun kq v5 v7 w' => ∃ (x5_1 : List ByteArray) (x7_1 : Int), v7 = .int .i64 x7_1 ∧ Aside0 (seal_key.l0 kq a0 a1 x5_1 x7_1 = some r) ∧ Aside0 (kq ≤ k) ∧ Aside0 (Kd.R Kd.string 9 w' w.heap.size (fun _ => True) v5 x5_1) ∧ Aside0 (Below w.heap.size w w'))
  case atStart => exact ⟨(([] : List ByteArray)), (0), (by first | rfl | (simp; done) | (simp [*]; done)), H', ⟨Nat.le_refl _⟩, ⟨by first | exact Kd.R_nil _ _ _ _ _ | exact Kd.N_nil _ _ _ _ _ | exact Kd.V_nil _ _ _ _ _ | exact Kd.Q_nil _ _ _ _ _ | exact Kd.S_nil _ _ _ _ _⟩, ⟨by repeat (first | (with_reducible first | exact HB.out | apply below_alloc | apply pw_below_drewN | apply below_drew1) | exact HB.out)⟩⟩
  case round =>
    clear H'
    try clear p2
    obtain ⟨x5_1, x7_1, rfl, HA, HK1, HO_5, HB⟩ := hrel
    cases gk with
    | zero => exact absurd HA.out (by simp [seal_key.l0])
    | succ k1 =>
      have H := HA.out
      clear HA
      simp only [seal_key.l0] at H
      by_cases c3 : x7_1 < 18
      · rw [if_pos c3] at H
        have c3b0 : decide (x7_1 < 18) = true := decide_eq_true c3
        clear c3
        replace H := Option.bind_eq_some_iff.mp H
        obtain ⟨t158, A40, H⟩ := H
        replace H : ((seal_chain.f t158 15).bind fun t159 => (if x5_1.length < 8796093022208 then (seal_key.l0 k1 a0 a1 (x5_1 ++ [t159]) (wrap64 (x7_1 + 1))) else (none))) = some r := H
        have A4 := Aside0.mk A40
        clear A40
        replace H := Option.bind_eq_some_iff.mp H
        obtain ⟨t159, A50, H⟩ := H
        replace H : (if x5_1.length < 8796093022208 then (seal_key.l0 k1 a0 a1 (x5_1 ++ [t159]) (wrap64 (x7_1 + 1))) else (none)) = some r := H
        have A5 := Aside0.mk A50
        clear A50
        by_cases c6 : x5_1.length < 8796093022208
        · rw [if_pos c6] at H
          have LMc6 := Aside0.mk c6
          clear c6
          obtain ⟨y160, hy160⟩ : ∃ y_ : List ByteArray, y_ = (x5_1 ++ [t159]) := ⟨_, rfl⟩
          replace H : (seal_key.l0 k1 a0 a1 y160 (wrap64 (x7_1 + 1))) = some r := by first | (rw [hy160]; with_reducible exact H) | (have H2_ := (Option.bind_some _ _).symm.trans H; rw [hy160]; with_reducible exact H2_) | (have H2_ := (Option.bind_some _ _).symm.trans H; with_reducible exact H2_) | with_reducible exact H | (rw [hy160]; exact H) | exact H
          have Ny160 := Aside0.mk hy160
          clear hy160
          have H' := Aside0.mk H
          clear H
          go_wp2_with (first | ((with_reducible refine gate_callee (f := 54) rfl ?_); refine goesL_ (some 14) rfl rfl Tryd.func54 (by kernel_rfl) rfl #[.string a0, .int .i64 a1, .int .i64 x7_1] rfl (by (try simp only [List.map_toArray, List.map_cons, List.map_nil]); first | done | rfl | (simp only [List.length_drop, List.length_take]; rfl)) ?_; (with_reducible refine (seal_start.calls a0 a1 x7_1 t158 _ A4.out (hG := ?hGl)).mono ?_); (case hGl => exact (Glob.below HG_.out (by repeat (first | (with_reducible first | exact HB.out | apply below_alloc | apply pw_below_drewN | apply below_drew1) | exact HB.out)))); rintro e w7 ⟨rfl, hb⟩; refine ⟨_, rfl, ?_⟩; have n0_ := Aside0.mk (Kd.R_below (by (with_reducible repeat (first | apply Kd.R_alloc | apply Kd.R_drewN | apply Kd.R_drew)); exact HO_5.out) hb); have n1_ := Aside0.mk (below_step (by repeat (first | (with_reducible first | exact HB.out | apply below_alloc | apply pw_below_drewN | apply below_drew1) | exact HB.out)) hb); clear HO_5; clear HB; have HO_5 := n0_; have HB := n1_; clear n0_ n1_; (try clear hb); (try clear hb2); (try clear hk); (try clear hi)) | ((with_reducible refine gate_callee (f := 53) rfl ?_); refine goesL_ (some 15) rfl rfl Tryd.func53 (by kernel_rfl) rfl #[.string t158, .int .i64 15] rfl (by (try simp only [List.map_toArray, List.map_cons, List.map_nil]); first | done | rfl | (simp only [List.length_drop, List.length_take]; rfl)) ?_; (with_reducible refine (seal_chain.calls t158 15 t159 _ A5.out).mono ?_); clear A5; rintro e w8 ⟨rfl, hb⟩; refine ⟨_, rfl, ?_⟩; have n0_ := Aside0.mk (Kd.R_below (by (with_reducible repeat (first | apply Kd.R_alloc | apply Kd.R_drewN | apply Kd.R_drew)); exact HO_5.out) hb); have n1_ := Aside0.mk (below_step (by repeat (first | (with_reducible first | exact HB.out | apply below_alloc | apply pw_below_drewN | apply below_drew1) | exact HB.out)) hb); clear HO_5; clear HB; have HO_5 := n0_; have HB := n1_; clear n0_ n1_; (try clear hb); (try clear hb2); (try clear hk); (try clear hi)) | ((with_reducible refine gate_builtin (b := .append) (xs := #[.tmp 10, .tmp 16]) rfl ?_); at_builtin; refine Kd.R_append Kd.string (w0 := w) w.heap.size rfl (.tmp 10) (.tmp 16) 22 9 (.string ⟨#[]⟩) 16 rfl Tryd.underlying22 info9 rfl (by decide) (by omega) u5 x5_1 t159 [.string t159] (fun _ => True) (fun _ => False) rfl rfl ?aP (fun _ hk => hk.elim) ?aF ?aO ?aB ?aS ?aL ?_; (case aP => exact rfl); (case aB => exact (by repeat (first | (with_reducible first | exact HB.out | apply below_alloc | apply pw_below_drewN | apply below_drew1) | exact HB.out))); (case aF => exact (fun _ _ => trivial)); (case aO => exact (by (with_reducible repeat (first | apply Kd.R_alloc | apply Kd.R_drewN | apply Kd.R_drew)); exact HO_5.out)); (case aS => exact (below_size (by repeat (first | (with_reducible first | exact HB.out | apply below_alloc | apply pw_below_drewN | apply below_drew1) | exact HB.out)))); (case aL => have := LMc6.out; omega); intro v161 w9 ho hb hg hat; rw [← Ny160.out] at ho; have n0_ := Aside0.mk (hb); have n1_ := Aside0.mk (ho); clear HB; clear HO_5; have HB := n0_; have HO162 := n1_; clear n0_ n1_; clear ho hb hg hat))
          go_roundg k1
          case measure => have := HK1.out; omega
          case rel => exact ⟨(y160), (wrap64 (x7_1 + 1)), (by first | rfl | (simp; done) | (simp [*]; done)), H', ⟨by have := HK1.out; omega⟩, ⟨by (with_reducible repeat (first | apply Kd.R_alloc | apply Kd.R_drewN | apply Kd.R_drew)); exact HO162.out⟩, ⟨by repeat (first | (with_reducible first | exact HB.out | apply below_alloc | apply pw_below_drewN | apply below_drew1) | exact HB.out)⟩⟩
        · rw [if_neg c6] at H
          exact absurd H (by simp)
      · rw [if_neg c3] at H
        have c3b0 : decide (x7_1 < 18) = false := decide_eq_false c3
        clear c3
        replace H := Option.bind_eq_some_iff.mp H
        obtain ⟨t163, A100, H⟩ := H
        replace H : (some t163) = some r := H
        have A10 := Aside0.mk A100
        clear A100
        obtain rfl := Option.some.inj H
        obtain ⟨Ao11, co11, eo11⟩ := Kd.R_slice HO_5.out
        subst eo11
        go_wp2_with (first | ((with_reducible refine gate_callee (f := 63) rfl ?_); refine goesL_ (some 20) rfl rfl Tryd.func63 (by kernel_rfl) rfl #[.slice Ao11 x5_1.length co11] rfl (by (try simp only [List.map_toArray, List.map_cons, List.map_nil]); first | done | rfl | (simp only [List.length_drop, List.length_take]; rfl)) ?_; (with_reducible refine (seal_of.calls _ _ x5_1 t163 _ ?side1 ?side2 A10.out (hG := ?hGl)).mono ?_); clear A10; (case hGl => exact (Glob.below HG_.out (by repeat (first | (with_reducible first | exact HB.out | apply below_alloc | apply pw_below_drewN | apply below_drew1) | exact HB.out)))); (case side1 => repeat (first | exact (Kd.R_reads' HO_5.out).2.2 | (with_reducible refine Kd.C_alloc ?_ _) | (with_reducible refine Kd.C_drewN ?_ _) | (with_reducible refine Kd.C_drew ?_))); (case side2 => exact (Kd.R_reads' HO_5.out).2.1); rintro e w12 ⟨rfl, hb⟩; refine ⟨_, rfl, ?_⟩; have n0_ := Aside0.mk (Kd.R_below (by (with_reducible repeat (first | apply Kd.R_alloc | apply Kd.R_drewN | apply Kd.R_drew)); exact HO_5.out) hb); have n1_ := Aside0.mk (below_step (by repeat (first | (with_reducible first | exact HB.out | apply below_alloc | apply pw_below_drewN | apply below_drew1) | exact HB.out)) hb); clear HO_5; clear HB; have HO_5 := n0_; have HB := n1_; clear n0_ n1_; (try clear hb); (try clear hb2); (try clear hk); (try clear hi)))
        go_ret
        exact ⟨by first | rfl | (simp [errW_none, errW_some] <;> rfl) | (simp [*, errW_none, errW_some] <;> rfl), by repeat (first | (with_reducible first | exact HB.out | apply below_alloc | apply pw_below_drewN | apply below_drew1) | exact HB.out)⟩
end Go.Proofs.YteleheamnighkaaDoor.PCb
end
section
namespace Go.Proofs.YteleheamnighkaaDoor.PCb
open Go.RowKit Go.Proofs.YteleheamnighkaaDoorW.PrintWords Go.Proofs.YteleheamnighkaaDoorW.PrintLast Go.Proofs.YteleheamnighkaaDoorW.PrintMore
attribute [local go_sem] max2_int min2_int max_two min_two max_three min_three max_four min_four   -- for this text's walks alone
set_option linter.unusedVariables false
set_option linter.unusedSimpArgs false
def seal_node.f (a0 : ByteArray) (a1 : ByteArray) (a2 : Bool) : Option (ByteArray) := if a2 = true then ((seal_of.f (([(⟨#[110, 111, 100, 101]⟩ : ByteArray), a1, a0] : List ByteArray))).bind fun t167 => (some t167)) else ((seal_of.f (([(⟨#[110, 111, 100, 101]⟩ : ByteArray), a0, a1] : List ByteArray))).bind fun t171 => (some t171))
set_option maxHeartbeats 8000000 in
set_option maxRecDepth 100000 in
theorem seal_node.calls (a0 : ByteArray) (a1 : ByteArray) (a2 : Bool) (r : ByteArray) (w : World) (h : seal_node.f a0 a1 a2 = some r) (hG : Glob w) :
    Calls Tryd.prog 64 #[.string a0, .string a1, .bool a2] w fun e w' => e = .returned (.string r) ∧ Below w.heap.size w w' := by
  have HG_ := Aside0.mk hG
  clear hG
  have HB := Aside0.mk (Below.refl w.heap.size w)
  have H : (if a2 = true then ((seal_of.f (([(⟨#[110, 111, 100, 101]⟩ : ByteArray), a1, a0] : List ByteArray))).bind fun t167 => (some t167)) else ((seal_of.f (([(⟨#[110, 111, 100, 101]⟩ : ByteArray), a0, a1] : List ByteArray))).bind fun t171 => (some t171))) = some r := h
  clear h
  by_cases c4 : a2 = true
  · subst c4
    have H1 : ((seal_of.f (([(⟨#[110, 111, 100, 101]⟩ : ByteArray), a1, a0] : List ByteArray))).bind fun t167 => (some t167)) = some r := by rw [if_pos rfl] at H; exact H
    clear H
    have H := H1
    clear H1
    obtain ⟨y164, hy164⟩ : ∃ y_ : List ByteArray, y_ = (([(⟨#[110, 111, 100, 101]⟩ : ByteArray), a1, a0] : List ByteArray)) := ⟨_, rfl⟩
    replace H : ((seal_of.f y164).bind fun t167 => (some t167)) = some r := by first | (rw [hy164]; with_reducible exact H) | (have H2_ := (Option.bind_some _ _).symm.trans H; rw [hy164]; with_reducible exact H2_) | (have H2_ := (Option.bind_some _ _).symm.trans H; with_reducible exact H2_) | with_reducible exact H | (rw [hy164]; exact H) | exact H
    have Ny164 := Aside0.mk hy164
    clear hy164
    replace H := Option.bind_eq_some_iff.mp H
    obtain ⟨t167, A50, H⟩ := H
    replace H : (some t167) = some r := H
    have A5 := Aside0.mk A50
    clear A50
    obtain rfl := Option.some.inj H
    go_enter Tryd.func64, Tryd.ntmps64
    go_wp2_with (first | ((with_reducible refine gate_dst (N := 12) rfl ?_); refine Kd.R_lit Kd.string _ 9 ?hg (N := 12) ?hd (xs := ([(⟨#[110, 111, 100, 101]⟩ : ByteArray), a1, a0] : List ByteArray)) (inner := [.string (⟨#[110, 111, 100, 101]⟩ : ByteArray), .string a1, .string a0]) (ok := fun _ => True) (okp := fun _ => True) ?hr ?hp (fun _ hk => hk) trivial (Below.refl _ _) (Nat.le_refl _) (by simp) ?_; (case hd => rfl); (case hg => rfl); (case hr => first | (go_simp; done) | (go_simp; rfl)); (case hp => exact (Reps.one (show Kd.M Kd.string _ _ _ (⟨#[110, 111, 100, 101]⟩ : ByteArray) [.string (⟨#[110, 111, 100, 101]⟩ : ByteArray)] from rfl) (Reps.one (show Kd.M Kd.string _ _ _ a1 [.string a1] from rfl) (Reps.one (show Kd.M Kd.string _ _ _ a0 [.string a0] from rfl) (Reps.none _ _))))); intro v165 w6 ho7 hb hg_ hnew_; clear hg_ hnew_; (first | rw [← Ny164.out] at ho7 | (simp only [Int.reduceToNat] at ho7; rw [← Ny164.out] at ho7)); have n0_ := Aside0.mk (Kd.R_lower ho7 (below_size (by repeat (first | (with_reducible first | exact HB.out | apply below_alloc | apply pw_below_drewN | apply below_drew1) | exact HB.out)))); have n1_ := Aside0.mk (below_step (by repeat (first | (with_reducible first | exact HB.out | apply below_alloc | apply pw_below_drewN | apply below_drew1) | exact HB.out)) hb); clear HB; have HO166 := n0_; have HB := n1_; clear n0_ n1_; clear hb ho7; obtain ⟨Ao8, co8, eo8⟩ := Kd.R_slice HO166.out; subst eo8) | ((with_reducible refine gate_callee (f := 63) rfl ?_); refine goesL_ (some 13) rfl rfl Tryd.func63 (by kernel_rfl) rfl #[.slice Ao8 y164.length co8] rfl (by (try simp only [List.map_toArray, List.map_cons, List.map_nil]); first | done | rfl | (simp only [List.length_drop, List.length_take]; rfl)) ?_; (with_reducible refine (seal_of.calls _ _ y164 t167 _ ?side1 ?side2 A5.out (hG := ?hGl)).mono ?_); clear A5; (case hGl => exact (Glob.below HG_.out (by repeat (first | (with_reducible first | exact HB.out | apply below_alloc | apply pw_below_drewN | apply below_drew1) | exact HB.out)))); (case side1 => repeat (first | exact (Kd.R_reads' HO166.out).2.2 | (with_reducible refine Kd.C_alloc ?_ _) | (with_reducible refine Kd.C_drewN ?_ _) | (with_reducible refine Kd.C_drew ?_))); (case side2 => exact (Kd.R_reads' HO166.out).2.1); rintro e w9 ⟨rfl, hb⟩; refine ⟨_, rfl, ?_⟩; have n0_ := Aside0.mk (Kd.R_below (by (with_reducible repeat (first | apply Kd.R_alloc | apply Kd.R_drewN | apply Kd.R_drew)); exact HO166.out) hb); have n1_ := Aside0.mk (below_step (by repeat (first | (with_reducible first | exact HB.out | apply below_alloc | apply pw_below_drewN | apply below_drew1) | exact HB.out)) hb); clear HO166; clear HB; have HO166 := n0_; have HB := n1_; clear n0_ n1_; (try clear hb); (try clear hb2); (try clear hk); (try clear hi)))
    go_ret
    exact ⟨by first | rfl | (simp [errW_none, errW_some] <;> rfl) | (simp [*, errW_none, errW_some] <;> rfl), by repeat (first | (with_reducible first | exact HB.out | apply below_alloc | apply pw_below_drewN | apply below_drew1) | exact HB.out)⟩
  · replace c4 := Bool.eq_false_iff.mpr c4
    subst c4
    have H1 : ((seal_of.f (([(⟨#[110, 111, 100, 101]⟩ : ByteArray), a0, a1] : List ByteArray))).bind fun t171 => (some t171)) = some r := by rw [if_neg (show ¬ (false = true) by decide)] at H; exact H
    clear H
    have H := H1
    clear H1
    obtain ⟨y168, hy168⟩ : ∃ y_ : List ByteArray, y_ = (([(⟨#[110, 111, 100, 101]⟩ : ByteArray), a0, a1] : List ByteArray)) := ⟨_, rfl⟩
    replace H : ((seal_of.f y168).bind fun t171 => (some t171)) = some r := by first | (rw [hy168]; with_reducible exact H) | (have H2_ := (Option.bind_some _ _).symm.trans H; rw [hy168]; with_reducible exact H2_) | (have H2_ := (Option.bind_some _ _).symm.trans H; with_reducible exact H2_) | with_reducible exact H | (rw [hy168]; exact H) | exact H
    have Ny168 := Aside0.mk hy168
    clear hy168
    replace H := Option.bind_eq_some_iff.mp H
    obtain ⟨t171, A100, H⟩ := H
    replace H : (some t171) = some r := H
    have A10 := Aside0.mk A100
    clear A100
    obtain rfl := Option.some.inj H
    go_enter Tryd.func64, Tryd.ntmps64
    go_wp2_with (first | ((with_reducible refine gate_dst (N := 12) rfl ?_); refine Kd.R_lit Kd.string _ 9 ?hg (N := 12) ?hd (xs := ([(⟨#[110, 111, 100, 101]⟩ : ByteArray), a0, a1] : List ByteArray)) (inner := [.string (⟨#[110, 111, 100, 101]⟩ : ByteArray), .string a0, .string a1]) (ok := fun _ => True) (okp := fun _ => True) ?hr ?hp (fun _ hk => hk) trivial (Below.refl _ _) (Nat.le_refl _) (by simp) ?_; (case hd => rfl); (case hg => rfl); (case hr => first | (go_simp; done) | (go_simp; rfl)); (case hp => exact (Reps.one (show Kd.M Kd.string _ _ _ (⟨#[110, 111, 100, 101]⟩ : ByteArray) [.string (⟨#[110, 111, 100, 101]⟩ : ByteArray)] from rfl) (Reps.one (show Kd.M Kd.string _ _ _ a0 [.string a0] from rfl) (Reps.one (show Kd.M Kd.string _ _ _ a1 [.string a1] from rfl) (Reps.none _ _))))); intro v169 w11 ho12 hb hg_ hnew_; clear hg_ hnew_; (first | rw [← Ny168.out] at ho12 | (simp only [Int.reduceToNat] at ho12; rw [← Ny168.out] at ho12)); have n0_ := Aside0.mk (Kd.R_lower ho12 (below_size (by repeat (first | (with_reducible first | exact HB.out | apply below_alloc | apply pw_below_drewN | apply below_drew1) | exact HB.out)))); have n1_ := Aside0.mk (below_step (by repeat (first | (with_reducible first | exact HB.out | apply below_alloc | apply pw_below_drewN | apply below_drew1) | exact HB.out)) hb); clear HB; have HO170 := n0_; have HB := n1_; clear n0_ n1_; clear hb ho12; obtain ⟨Ao13, co13, eo13⟩ := Kd.R_slice HO170.out; subst eo13) | ((with_reducible refine gate_callee (f := 63) rfl ?_); refine goesL_ (some 13) rfl rfl Tryd.func63 (by kernel_rfl) rfl #[.slice Ao13 y168.length co13] rfl (by (try simp only [List.map_toArray, List.map_cons, List.map_nil]); first | done | rfl | (simp only [List.length_drop, List.length_take]; rfl)) ?_; (with_reducible refine (seal_of.calls _ _ y168 t171 _ ?side1 ?side2 A10.out (hG := ?hGl)).mono ?_); clear A10; (case hGl => exact (Glob.below HG_.out (by repeat (first | (with_reducible first | exact HB.out | apply below_alloc | apply pw_below_drewN | apply below_drew1) | exact HB.out)))); (case side1 => repeat (first | exact (Kd.R_reads' HO170.out).2.2 | (with_reducible refine Kd.C_alloc ?_ _) | (with_reducible refine Kd.C_drewN ?_ _) | (with_reducible refine Kd.C_drew ?_))); (case side2 => exact (Kd.R_reads' HO170.out).2.1); rintro e w14 ⟨rfl, hb⟩; refine ⟨_, rfl, ?_⟩; have n0_ := Aside0.mk (Kd.R_below (by (with_reducible repeat (first | apply Kd.R_alloc | apply Kd.R_drewN | apply Kd.R_drew)); exact HO170.out) hb); have n1_ := Aside0.mk (below_step (by repeat (first | (with_reducible first | exact HB.out | apply below_alloc | apply pw_below_drewN | apply below_drew1) | exact HB.out)) hb); clear HO170; clear HB; have HO170 := n0_; have HB := n1_; clear n0_ n1_; (try clear hb); (try clear hb2); (try clear hk); (try clear hi)))
    go_ret
    exact ⟨by first | rfl | (simp [errW_none, errW_some] <;> rfl) | (simp [*, errW_none, errW_some] <;> rfl), by repeat (first | (with_reducible first | exact HB.out | apply below_alloc | apply pw_below_drewN | apply below_drew1) | exact HB.out)⟩
end Go.Proofs.YteleheamnighkaaDoor.PCb
end
section
set_option linter.unusedVariables false
set_option linter.unusedSimpArgs false
namespace Go.Proofs.YteleheamnighkaaDoor
open Go.RowKit Go.DoorKit Go.Proofs.YteleheamnighkaaDoorW.PrintWords
def Small (n : Nat) : Prop := n ≤ 10000
instance (n : Nat) : Decidable (Small n) := inferInstanceAs (Decidable (n ≤ 10000))
def Idx (n : Int) : Prop := 0 ≤ n ∧ n ≤ 100000
instance (n : Int) : Decidable (Idx n) := inferInstanceAs (Decidable (0 ≤ n ∧ n ≤ 100000))
theorem Idx.nat {n : Int} (h : Idx n) : ∃ i : Nat, n = i ∧ i ≤ 100000 := by
  obtain ⟨i, rfl⟩ := Int.eq_ofNat_of_zero_le h.1
  exact ⟨i, rfl, by have := h.2; omega⟩
theorem dec_len {i : Nat} (h : i ≤ 100000) : (Lib.decDigits i).length ≤ 20 := by
  rw [Lib.decDigits_length]; exact Dig.nDigits_le (by decide) (Nat.lt_of_le_of_lt h (by decide))
theorem rItoa {i : Nat} (h : i ≤ 100000) : strconv_Itoa.f (i : Int) = some (ofT (Lib.decDigits i)) := by
  unfold strconv_Itoa.f; rw [if_pos ⟨by omega, by omega⟩, Int.toNat_natCast]
theorem sOf (l : List ByteArray) (h : need l ≤ 140737488355328) : seal_of.f l = some (ofT (Dig.lst (l.map tx))) := if_pos h
theorem sChain (t : ByteArray) (n : Nat) (h : t.size ≤ 140737488355328) (hn : n ≤ 1000) : seal_chain.f t n = some (ofT (Dig.chain (tx t) n)) := by
  unfold seal_chain.f; rw [if_pos (Links.mk h (by omega) (by omega)), Int.toNat_natCast]
theorem need_all {l : List ByteArray} (m n : Nat) (hm : ∀ s ∈ l, s.size ≤ m) (hn : l.length ≤ n) (h : n * (m + 21) ≤ 140737488355328) : need l ≤ 140737488355328 :=
  Nat.le_trans (Pure.need_of hm) (Nat.le_trans (Nat.mul_le_mul hn (Nat.le_refl _)) h)
theorem need3 (a b c : ByteArray) (ha : a.size ≤ 10000) (hb : b.size ≤ 10000) (hc : c.size ≤ 10000) : need [a, b, c] ≤ 140737488355328 :=
  need_all 10000 3 (by intro s hs; simp only [List.mem_cons, List.not_mem_nil, or_false] at hs; rcases hs with rfl | rfl | rfl <;> assumption) (by simp) (by decide)
theorem start_need (a0 : ByteArray) {i k : Nat} (h : a0.size ≤ 10000) (hi : i ≤ 100000) (hk : k ≤ 100000) : need [a0, ofT (Lib.decDigits i), ofT (Lib.decDigits k)] ≤ 140737488355328 :=
  need3 _ _ _ h (by rw [size_ofT]; have := dec_len hi; omega) (by rw [size_ofT]; have := dec_len hk; omega)
def startIn (a0 : ByteArray) (a1 a2 : Int) : Prop := Small a0.size ∧ Idx a1 ∧ Idx a2
instance (a0 : ByteArray) (a1 a2 : Int) : Decidable (startIn a0 a1 a2) := inferInstanceAs (Decidable (Small a0.size ∧ Idx a1 ∧ Idx a2))
def seal_start.f (a0 : ByteArray) (a1 : Int) (a2 : Int) : Option ByteArray := if startIn a0 a1 a2 then some (ofT (Dig.start0 (tx a0) a1.toNat a2.toNat)) else none
theorem seal_start.calls (a0 : ByteArray) (a1 : Int) (a2 : Int) (r : ByteArray) (w : World) (h : seal_start.f a0 a1 a2 = some r) (hG : Glob w) :
    Calls Tryd.prog 54 #[.string a0, .int .i64 a1, .int .i64 a2] w fun e w' => e = .returned (.string r) ∧ Below w.heap.size w w' := by
  obtain ⟨⟨hs, hI, hK⟩, rfl⟩ := if_out h
  obtain ⟨i, rfl, hi⟩ := hI.nat
  obtain ⟨k, rfl, hk⟩ := hK.nat
  refine PCb.seal_start.calls a0 i k _ w ?_ hG
  unfold PCb.seal_start.f
  rw [rItoa hi, Option.bind_some, rItoa hk, Option.bind_some, sOf _ (start_need a0 hs hi hk), Option.bind_some]; rfl
theorem startS (a0 : ByteArray) (i k : Nat) (hs : a0.size ≤ 10000) (hi : i ≤ 100000) (hk : k ≤ 100000) :
    PCb.seal_start.f a0 i k = some (ofT (Dig.start0 (tx a0) i k)) := by
  unfold PCb.seal_start.f
  rw [rItoa hi, Option.bind_some, rItoa hk, Option.bind_some, sOf _ (start_need a0 hs hi hk), Option.bind_some]; rfl
theorem chain_len {t : Dig.Txt} (h : t.length = 16) : ∀ n, (Dig.chain t n).length = 16
  | 0 => h
  | n + 1 => by rw [Dig.chain, Dig.sum_len]
theorem start_len (s : Dig.Txt) (i k : Nat) : (Dig.start0 s i k).length = 16 := Dig.sum_len _
def endsB (s : Dig.Txt) (i k : Nat) : List ByteArray := (List.range k).map fun j => ofT (Dig.chain (Dig.start0 s i j) 15)
theorem endsB_succ (s : Dig.Txt) (i k : Nat) : endsB s i (k + 1) = endsB s i k ++ [ofT (Dig.chain (Dig.start0 s i k) 15)] := by
  unfold endsB; rw [List.range_succ, List.map_append]; rfl
theorem endsB_len (s : Dig.Txt) (i k : Nat) : (endsB s i k).length = k := by simp [endsB]
theorem endsB_size (s : Dig.Txt) (i k : Nat) : ∀ x ∈ endsB s i k, x.size ≤ 16 := by
  intro x hx
  simp only [endsB, List.mem_map] at hx
  obtain ⟨j, _, rfl⟩ := hx
  rw [size_ofT, chain_len (start_len s i j)]; exact Nat.le_refl _
theorem endsB_tx (s : Dig.Txt) (i : Nat) : (endsB s i 18).map tx = Dig.endsOf s i := by
  unfold endsB Dig.endsOf; rw [List.map_map]; rfl
theorem ends_need (s : Dig.Txt) (i : Nat) : need (endsB s i 18) ≤ 140737488355328 :=
  need_all 16 18 (endsB_size s i 18) (by rw [endsB_len]; exact Nat.le_refl _) (by decide)
theorem start_big (s : Dig.Txt) (i k : Nat) : (ofT (Dig.start0 s i k)).size ≤ 140737488355328 := by rw [size_ofT, start_len]; decide
theorem skey_l0 (a0 : ByteArray) (i : Nat) (hs : a0.size ≤ 10000) (hi : i ≤ 100000) : ∀ (d j : Nat), j + d = 18 →
    PCb.seal_key.l0 (d + 1) a0 i (endsB (tx a0) i j) j = some (ofT (Dig.tree (tx a0) 0 i))
  | 0, j, h => by
    have : j = 18 := by omega
    subst this
    rw [PCb.seal_key.l0, if_neg (by omega), sOf _ (ends_need _ _), Option.bind_some, endsB_tx]; rfl
  | d + 1, j, h => by
    rw [PCb.seal_key.l0, if_pos (by omega), startS a0 i j hs hi (by omega), Option.bind_some, show (15 : Int) = ((15 : Nat) : Int) from rfl, sChain _ 15 (start_big _ _ _) (by decide), Option.bind_some,
      if_pos (by rw [endsB_len]; omega), wrap_succ j (by omega), tx_ofT, ← endsB_succ, skey_l0 a0 i hs hi d (j + 1) (by omega)]
def keyIn (a0 : ByteArray) (a1 : Int) : Prop := Small a0.size ∧ Idx a1
instance (a0 : ByteArray) (a1 : Int) : Decidable (keyIn a0 a1) := inferInstanceAs (Decidable (Small a0.size ∧ Idx a1))
def seal_key.f (a0 : ByteArray) (a1 : Int) : Option ByteArray := if keyIn a0 a1 then some (ofT (Dig.tree (tx a0) 0 a1.toNat)) else none
theorem seal_key.calls (a0 : ByteArray) (a1 : Int) (r : ByteArray) (w : World) (h : seal_key.f a0 a1 = some r) (hG : Glob w) :
    Calls Tryd.prog 79 #[.string a0, .int .i64 a1] w fun e w' => e = .returned (.string r) ∧ Below w.heap.size w w' := by
  obtain ⟨⟨hs, hI⟩, rfl⟩ := if_out h
  obtain ⟨i, rfl, hi⟩ := hI.nat
  exact PCb.seal_key.calls 19 a0 i _ w (skey_l0 a0 i hs hi 18 0 rfl) hG
def nodeIn (a0 a1 : ByteArray) : Prop := Small a0.size ∧ Small a1.size
instance (a0 a1 : ByteArray) : Decidable (nodeIn a0 a1) := inferInstanceAs (Decidable (Small a0.size ∧ Small a1.size))
theorem node_need (a0 a1 : ByteArray) (h0 : a0.size ≤ 10000) (h1 : a1.size ≤ 10000) : need [(⟨#[110, 111, 100, 101]⟩ : ByteArray), a0, a1] ≤ 140737488355328 :=
  need3 _ _ _ (by decide) h0 h1
def stepB (at_ p : Dig.Txt) (back : Bool) : Dig.Txt := if back then Dig.nodeT p at_ else Dig.nodeT at_ p
def seal_node.f (a0 : ByteArray) (a1 : ByteArray) (a2 : Bool) : Option ByteArray := if nodeIn a0 a1 then some (ofT (Dig.sum (stepB (tx a0) (tx a1) a2))) else none
theorem seal_node.calls (a0 : ByteArray) (a1 : ByteArray) (a2 : Bool) (r : ByteArray) (w : World) (h : seal_node.f a0 a1 a2 = some r) (hG : Glob w) :
    Calls Tryd.prog 64 #[.string a0, .string a1, .bool a2] w fun e w' => e = .returned (.string r) ∧ Below w.heap.size w w' := by
  obtain ⟨⟨h0, h1⟩, rfl⟩ := if_out h
  refine PCb.seal_node.calls a0 a1 a2 _ w ?_ hG
  unfold PCb.seal_node.f
  cases a2 with
  | true => rw [if_pos rfl, sOf _ (node_need a1 a0 h1 h0), Option.bind_some]; rfl
  | false => rw [if_neg Bool.false_ne_true, sOf _ (node_need a0 a1 h0 h1), Option.bind_some]; rfl
end Go.Proofs.YteleheamnighkaaDoor
end
section
set_option linter.unusedVariables false
set_option linter.unusedSimpArgs false
namespace Go.Proofs.YteleheamnighkaaDoor
open Go.RowKit Go.DoorKit Go.Proofs.YteleheamnighkaaDoorW.PrintWords
theorem hex_char (c : UInt8) (h : Dig.isHex c = true) : HexC (c.toNat : Int) ∧ hexI (c.toNat : Int) = (Dig.hexv c : Int) ∧ Dig.hexv c ≤ 15 := by
  have : ∀ n : Fin 256, Dig.isHex (UInt8.ofNat n.val) = true → HexC ((UInt8.ofNat n.val).toNat : Int) ∧ hexI ((UInt8.ofNat n.val).toNat : Int) = (Dig.hexv (UInt8.ofNat n.val) : Int) ∧ Dig.hexv (UInt8.ofNat n.val) ≤ 15 := by decide +kernel
  have h2 := this ⟨c.toNat, c.toNat_lt⟩
  rw [show UInt8.ofNat (⟨c.toNat, c.toNat_lt⟩ : Fin 256).val = c from UInt8.ofNat_toNat] at h2
  exact h2 h
theorem rest_snoc (l : List Nat) (x : Nat) : Dig.restOf (l ++ [x]) = Dig.restOf l + (15 - x) := by simp [Dig.restOf]
theorem rest_le : ∀ l : List Nat, Dig.restOf l ≤ 15 * l.length
  | [] => Nat.le_refl _
  | x :: l => by
    have := rest_le l
    have e : Dig.restOf (x :: l) = (15 - x) + Dig.restOf l := by simp [Dig.restOf]
    rw [e, List.length_cons]; omega
def upL : List ByteArray → List ByteArray
  | a :: b :: l => ofT (Dig.sum (Dig.nodeT (tx a) (tx b))) :: upL l
  | _ => []
def Level (l : List ByteArray) : Prop := l.length ≤ 1000 ∧ ∀ s ∈ l, s.size ≤ 10000
instance (l : List ByteArray) : Decidable (Level l) := inferInstanceAs (Decidable (l.length ≤ 1000 ∧ ∀ s ∈ l, s.size ≤ 10000))
theorem getD_mem {l : List ByteArray} {i : Nat} (h : i < l.length) : l.getD i ByteArray.empty ∈ l := by
  rw [List.getD_eq_getElem?_getD, List.getElem?_eq_getElem h]; exact List.getElem_mem h
end Go.Proofs.YteleheamnighkaaDoor
end
section
set_option linter.unusedVariables false
namespace Go.Proofs.YteleheamnighkaaDoor
open Go.RowKit Go.Shelf Go.DoorKit
attribute [local go_sem] Oper.semAt_some
def upto (m k : Nat) : List (Fin m) := (List.finRange m).take k
theorem upto_succ {m k : Nat} (h : k < m) : upto m (k + 1) = upto m k ++ [⟨k, h⟩] := by
  unfold upto
  rw [List.take_add_one, List.getElem?_eq_getElem (by simpa using h)]
  simp
theorem upto_len {m k : Nat} (h : k ≤ m) : (upto m k).length = k := by unfold upto; rw [List.length_take, List.length_finRange]; omega
theorem upto_all (m : Nat) : upto m m = List.finRange m := List.take_of_length_le (by simp)
def Kpt (n₀ Bs Bn : Nat) (W W' : World) : Prop := Below n₀ W W' ∧ W'.cell? ⟨Bs, 0, none⟩ = W.cell? ⟨Bs, 0, none⟩ ∧ W'.cell? ⟨Bn, 0, none⟩ = W.cell? ⟨Bn, 0, none⟩
set_option maxRecDepth 100000 in
set_option maxHeartbeats 2000000 in
theorem chunk1_in (n : Nat) (hn : 1 ≤ n) (l Bs Bn n₀ : Nat) (A : Addr) (m cap : Nat) (hm : m ≤ 500) (hcap : 2 * m ≤ cap) (J Jx : List (Fin m) → World → Prop)
    (hY : ∀ pre x W, J pre W → pre.length < m → YieldAt Fence.wide (n - 1) Tryd.prog l #[.slice (some (A.add (2 * x.val))) 2 2] W fun e W' =>
      (e = .returned (.bool true) ∧ J (pre ++ [x]) W' ∧ Kpt n₀ Bs Bn W W') ∨ (e = .returned (.bool false) ∧ Jx (pre ++ [x]) W'))
    (hJd : ∀ pre W d, J pre W → J pre (W.drewN d))
    (W : World) (hBs : W.cell? ⟨Bs, 0, none⟩ = some (.slice (some A) (2 * m) cap)) (hBn : W.cell? ⟨Bn, 0, none⟩ = some (.int .i64 2)) (h0 : J [] W) :
    CallsIn Fence.wide n Tryd.prog 92 #[.func (.yield l) #[] #[], .pointer (some ⟨Bs, 0, none⟩), .pointer (some ⟨Bn, 0, none⟩)] W fun e W' => (∃ v, e = .returned v) ∧
      ((∃ ys, ys = upto m m ∧ J ys W') ∨ (∃ pre, Jx pre W')) := by
  refine callsIn_of_wp Tryd.func92 rfl trivial ?_ rfl
  simp only [Tryd.ntmps92, List.size_toArray, List.length_cons, List.length_nil, Nat.reduceAdd, Nat.reduceSub, Array.replicate_succ, Array.replicate_zero, List.push_toArray, List.append_toArray, List.nil_append, List.cons_append]
  gi_wp2
  gi_loopw [4] (fun i wr => ∃ k : Nat, k ≤ m ∧ i = .int .i64 ((2 * k : Nat) : Int) ∧ J (upto m k) wr ∧ wr.cell? ⟨Bs, 0, none⟩ = some (.slice (some A) (2 * m) cap) ∧ wr.cell? ⟨Bn, 0, none⟩ = some (.int .i64 2))
    (fun i _ => 2 * m - (intOf i).toNat)
  case atStart => exact ⟨0, Nat.zero_le _, rfl, h0, hBs, hBn⟩
  case round =>
    obtain ⟨k, hk, rfl, hJs, hs, hb⟩ := hrel
    by_cases hlt : k < m
    · gi_wp2
      refine wpIn_wide.2 ?_
      go_quiet (fail)
      rw [show min (2 : Int) ((2 * m - 2 * k : Nat) : Int) = 2 by omega]
      have hs' : (wr.drewN nq).cell? ⟨Bs, 0, none⟩ = some (.slice (some A) (2 * m) cap) := hs
      have hb' : (wr.drewN nq).cell? ⟨Bn, 0, none⟩ = some (.int .i64 2) := hb
      have hJ' := hJd _ _ nq hJs
      generalize wr.drewN nq = wq at *
      obtain ⟨fn, tmps, assign, body, hy, hR⟩ := hY _ ⟨k, hlt⟩ wq hJ' (by rw [upto_len hk]; exact hlt)
      gi_wp2
      refine hR.mono ?_
      rintro e W3 (⟨rfl, hJ3, hk3⟩ | ⟨rfl, hJx3⟩)
      · have hs3 : W3.cell? ⟨Bs, 0, none⟩ = some (.slice (some A) (2 * m) cap) := hk3.2.1.trans hs'
        have hb3 : W3.cell? ⟨Bn, 0, none⟩ = some (.int .i64 2) := hk3.2.2.trans hb'
        gi_wp2
        go_roundw
        case rel => exact ⟨k + 1, by omega, by first | rfl | (congr 1; omega), by rw [upto_succ hlt]; exact hJ3, hs3, hb3⟩
        case measure => simp [intOf]; omega
      · gi_wp2
        refine bodyPost_ret (results_none rfl _ _ _) rfl ?_
        exact ⟨⟨_, rfl⟩, .inr ⟨_, hJx3⟩⟩
    · obtain rfl : k = m := by omega
      gi_wp2
      go_end0
      exact ⟨⟨_, rfl⟩, .inl ⟨_, rfl, hJs⟩⟩
set_option maxRecDepth 100000 in
theorem chunk_in (n : Nat) (A : Option Addr) (len cap : Nat) (w : World) :
    CallsIn Fence.wide n Tryd.prog 80 #[.slice A len cap, .int .i64 2] w fun e w' => e = .returned (.func (.func 92) #[] #[.pointer (some ⟨w.heap.size, 0, none⟩), .pointer (some ⟨w.heap.size + 1, 0, none⟩)]) ∧ w' = (w.alloc (.cells #[.slice A len cap] 22)).alloc (.cells #[.int .i64 2] 3) := by
  refine callsIn_of_wp Tryd.func80 rfl trivial ?_ rfl
  simp only [Tryd.ntmps80, List.size_toArray, List.length_cons, List.length_nil, Nat.reduceAdd, Nat.reduceSub, Array.replicate_succ, Array.replicate_zero, List.push_toArray, List.append_toArray, List.nil_append, List.cons_append]
  gi_wp2
  go_ret
  exact ⟨by simp, rfl⟩
theorem chunk_stops (n : Nat) (hn : 1 ≤ n) (Bs Bn n₀ : Nat) (A : Addr) (m cap : Nat) (hm : m ≤ 500) (hcap : 2 * m ≤ cap) (w : World) (hBs : Bs < w.heap.size) (hBn : Bn < w.heap.size)
    (hs : w.cell? ⟨Bs, 0, none⟩ = some (.slice (some A) (2 * m) cap)) (hb : w.cell? ⟨Bn, 0, none⟩ = some (.int .i64 2)) :
    SeqStopsK Fence.wide n Tryd.prog 92 #[.pointer (some ⟨Bs, 0, none⟩), .pointer (some ⟨Bn, 0, none⟩)] (fun x : Fin m => #[.slice (some (A.add (2 * x.val))) 2 2]) (Kpt n₀ Bs Bn)
      (fun ys => ys = List.finRange m) (fun _ => True) m w := fun l J Jx W hW hJ _ hY h0 => by
  refine (chunk1_in n hn l Bs Bn n₀ A m cap hm hcap J Jx hY (fun pre W d h => hJ pre _ _ none h ?_ (fun _ e => by cases e)) W ((hW.cell (p := ⟨Bs, 0, none⟩) hBs).trans hs) ((hW.cell (p := ⟨Bn, 0, none⟩) hBn).trans hb) h0).mono ?_
  · exact ⟨rfl, rfl, rfl, Nat.le_refl _, fun _ _ _ => rfl⟩
  · rintro e W' ⟨he, ⟨ys, rfl, hj⟩ | ⟨pre, hj⟩⟩
    · exact ⟨he, .inl ⟨_, upto_all m, hj⟩⟩
    · exact ⟨he, .inr ⟨_, trivial, hj⟩⟩
end Go.Proofs.YteleheamnighkaaDoor
end
section
set_option linter.unusedVariables false
set_option linter.unusedSimpArgs false
namespace Go.Proofs.YteleheamnighkaaDoor
open Go.RowKit Go.Shelf Go.DoorKit Go.Proofs.YteleheamnighkaaDoorW.PrintWords
attribute [local go_sem] Oper.semAt_some
theorem hexv_lt (c : UInt8) (h : Dig.isHex c = true) : Lib.indexByte [48, 49, 50, 51, 52, 53, 54, 55, 56, 57, 97, 98, 99, 100, 101, 102] c = (Dig.hexv c : Int) := by
  have : ∀ n : Fin 256, Dig.isHex (UInt8.ofNat n.val) = true → Lib.indexByte [48, 49, 50, 51, 52, 53, 54, 55, 56, 57, 97, 98, 99, 100, 101, 102] (UInt8.ofNat n.val) = (Dig.hexv (UInt8.ofNat n.val) : Int) := by decide +kernel
  have h2 := this ⟨c.toNat, c.toNat_lt⟩
  rw [show UInt8.ofNat (⟨c.toNat, c.toNat_lt⟩ : Fin 256).val = c from UInt8.ofNat_toNat] at h2
  exact h2 h
def dAt (m : Dig.Txt) (j : Nat) : Nat := (Dig.digits m).getD j 0
theorem hexix (S : List UInt8) (hh : ∀ c ∈ S, Dig.isHex c = true) (k : Nat) (hk : k < (ofT S).size) (w : World) :
    Calls Tryd.prog 84 #[.string ⟨#[48, 49, 50, 51, 52, 53, 54, 55, 56, 57, 97, 98, 99, 100, 101, 102]⟩, .int .u8 (((ofT S)[k]).toNat : Int)] w fun e w' => e = .returned (.int .i64 ((Dig.hexv (S.getD k 0) : Nat) : Int)) ∧ w = w' := by
  have hk' : k < S.length := by rw [size_ofT] at hk; exact hk
  have e : S.getD k 0 = S[k] := by rw [List.getD_eq_getElem?_getD, List.getElem?_eq_getElem hk']; rfl
  have e2 : (ofT S)[k] = S[k] := rfl
  refine (Tryd.strings_IndexByte _ _ w).mono ?_
  rintro e w' ⟨rfl, rfl⟩
  refine ⟨?_, rfl⟩
  rw [e]
  congr 3
  rw [Int.toNat_natCast]
  have : (((ofT S)[k]).toNat).toUInt8 = S[k] := UInt8.ofNat_toNat
  exact (congrArg (Lib.indexByte _) this).trans (hexv_lt _ (hh _ (List.getElem_mem hk')))
set_option maxRecDepth 100000 in
set_option maxHeartbeats 2000000 in
theorem digits1_in (n : Nat) (hn : 1 ≤ n) (l Bm : Nat) (msg : ByteArray) (hm : msg.size ≤ 140737488355328) (J Jx : List (Fin 18) → World → Prop)
    (hY : ∀ pre x W, J pre W → pre.length < 18 → YieldAt Fence.wide (n - 1) Tryd.prog l #[.int .i64 ((x.val : Nat) : Int), .int .i64 ((dAt (tx msg) x.val : Nat) : Int)] W fun e W' =>
      (e = .returned (.bool true) ∧ J (pre ++ [x]) W' ∧ True) ∨ (e = .returned (.bool false) ∧ Jx (pre ++ [x]) W'))
    (hJd : ∀ pre W W', J pre W → W.grownBy W' none → J pre W')
    (W : World) (hBm : W.cell? ⟨Bm, 0, none⟩ = some (.string msg)) (h0 : J [] W) :
    CallsIn Fence.wide n Tryd.prog 83 #[.func (.yield l) #[] #[], .pointer (some ⟨Bm, 0, none⟩)] W fun e W' => (∃ v, e = .returned v) ∧
      ((∃ ys, ys = upto 18 18 ∧ J ys W') ∨ (∃ pre, Jx pre W')) := by
  refine callsIn_of_wp Tryd.func83 rfl trivial ?_ rfl
  simp only [Tryd.ntmps83, List.size_toArray, List.length_cons, List.length_nil, Nat.reduceAdd, Nat.reduceSub, Array.replicate_succ, Array.replicate_zero, List.push_toArray, List.append_toArray, List.nil_append, List.cons_append]
  gi_wp2_with (refine ⟨trivial, ?_⟩; gi_at_call 17; refine (callsIn_wide.2 (digest_Sum.calls msg _ W (dSum msg hm))).mono ?_; rintro e W1 ⟨rfl, hb1⟩)
  have hJ1 : J [] W1 := hJd _ _ _ h0 ⟨hb1.os, hb1.tape, hb1.output, hb1.size, fun k hk _ => hb1.block k hk⟩
  obtain ⟨S, hS⟩ : ∃ S, S = Dig.sum (tx msg) := ⟨_, rfl⟩
  have hSl : S.length = 16 := by rw [hS]; exact Dig.sum_len _
  have hSh : ∀ c ∈ S, Dig.isHex c = true := by rw [hS]; exact Pure.sum_hex _
  have hDl : (S.map Dig.hexv).length = 16 := by rw [List.length_map, hSl]
  have hD : Dig.digits (tx msg) = S.map Dig.hexv ++ [Dig.restOf (S.map Dig.hexv) / 16, Dig.restOf (S.map Dig.hexv) % 16] := by rw [hS]; rfl
  have dlow : ∀ (k : Nat) (hk : k < S.length), dAt (tx msg) k = Dig.hexv S[k] := fun k hk => by
    unfold dAt
    rw [hD, List.getD_eq_getElem?_getD, List.getElem?_append_left (by omega), List.getElem?_map, List.getElem?_eq_getElem hk]; rfl
  have d16 : dAt (tx msg) 16 = Dig.restOf (S.map Dig.hexv) / 16 := by
    unfold dAt
    rw [hD, List.getD_eq_getElem?_getD, List.getElem?_append_right (by omega), hDl]; rfl
  have d17 : dAt (tx msg) 17 = Dig.restOf (S.map Dig.hexv) % 16 := by
    unfold dAt
    rw [hD, List.getD_eq_getElem?_getD, List.getElem?_append_right (by omega), hDl]; rfl
  rw [← hS]
  have hsz : (ofT S).size = 16 := by rw [size_ofT, hSl]
  rw [hsz, show ((16 : Nat) : Int) = 16 from rfl]
  clear hD hS
  gi_loopw [3, 11] (fun rv i wr => ∃ k : Nat, k ≤ 16 ∧ rv = .int .i64 ((Dig.restOf ((S.map Dig.hexv).take k) : Nat) : Int) ∧ i = .int .i64 (k : Int) ∧ J (upto 18 k) wr)
    (fun _ i _ => 16 - (intOf i).toNat)
  case atStart => exact ⟨0, Nat.zero_le _, rfl, rfl, hJ1⟩
  case round =>
    obtain ⟨k, hk, rfl, rfl, hJs⟩ := hrel
    by_cases hlt : k < 16
    · have hlS : k < S.length := by omega
      have hxl := (hex_char S[k] (hSh _ (List.getElem_mem hlS))).2.2
      have hrl := rest_le ((S.map Dig.hexv).take k)
      have hrl2 : ((S.map Dig.hexv).take k).length ≤ k := List.length_take_le _ _
      have hsz2 : k < (ofT S).size := by omega
      have HC := Lib.hid (hexix S hSh k hsz2)
      obtain ⟨d, hd⟩ : ∃ d, d = Dig.hexv (S.getD k 0) := ⟨_, rfl⟩
      have eg : S.getD k 0 = S[k] := by rw [List.getD_eq_getElem?_getD, List.getElem?_eq_getElem hlS]; rfl
      have hd2 : dAt (tx msg) k = d := by rw [hd, eg]; exact dlow k hlS
      have hd15 : d ≤ 15 := by rw [hd, eg]; exact hxl
      have hts : (S.map Dig.hexv).take (k + 1) = (S.map Dig.hexv).take k ++ [d] := by
        rw [List.take_add_one, List.getElem?_map, List.getElem?_eq_getElem hlS, hd, eg]; rfl
      have hrn : Dig.restOf ((S.map Dig.hexv).take (k + 1)) = Dig.restOf ((S.map Dig.hexv).take k) + (15 - d) := by rw [hts, rest_snoc]
      have hYk := hY _ ⟨k, by omega⟩ wr hJs (by rw [upto_len (by omega)]; omega)
      simp only at hYk
      rw [hd2] at hYk
      have HY := Lib.hid hYk
      rw [← hd] at HC
      generalize hrest : Dig.restOf ((S.map Dig.hexv).take k) = rk at *
      have hrk : rk ≤ 240 := by omega
      have HR2 := Lib.hid (And.intro hrn (And.intro hd2 (And.intro hSl (And.intro hSh (And.intro hsz (And.intro dlow (And.intro d16 (And.intro d17 (And.intro hDl hrest)))))))))
      clear hrest hSl hSh hsz dlow d16 d17 hDl hY hJd hJ1 hb1 hBm h0 hd eg hd2 hts hrn hYk hxl hrl hrl2
      obtain ⟨fn, tmps, assign, body, hy, hR⟩ := HY.out
      clear HY
      gi_wp2_with (refine ⟨trivial, ?_⟩; gi_at_call 84; refine (callsIn_wide.2 (HC.out _)).mono ?_; rintro e w1 ⟨rfl, rfl⟩)
      refine hR.mono ?_
      clear hR hy
      rintro e W3 (⟨rfl, hJ3, -⟩ | ⟨rfl, hJx3⟩)
      · gi_wp2
        go_roundw
        case rel => exact ⟨k + 1, by omega, by rw [HR2.out.1]; congr 1; omega, by first | rfl | (congr 1; omega), by rw [upto_succ (by omega)]; exact hJ3⟩
        case measure => simp [intOf]; omega
      · gi_wp2
        refine bodyPost_ret (results_none rfl _ _ _) rfl ?_
        exact ⟨⟨_, rfl⟩, .inr ⟨_, hJx3⟩⟩
    · obtain rfl : k = 16 := by omega
      have hrl := rest_le (S.map Dig.hexv)
      have hta : (S.map Dig.hexv).take 16 = S.map Dig.hexv := List.take_of_length_le (by omega)
      rw [hta]
      have hY16 := hY _ (⟨16, by decide⟩ : Fin 18) wr hJs (by rw [upto_len (by omega)]; omega)
      have hY17 := fun (W' : World) (hJ' : J (upto 18 16 ++ [(⟨16, by decide⟩ : Fin 18)]) W') => hY (upto 18 16 ++ [(⟨16, by decide⟩ : Fin 18)]) (⟨17, by decide⟩ : Fin 18) W' hJ' (by rw [List.length_append, upto_len (by omega), List.length_singleton]; omega)
      simp only at hY16 hY17
      rw [d16, show ((16 : Nat) : Int) = 16 from rfl] at hY16
      rw [d17, show ((17 : Nat) : Int) = 17 from rfl] at hY17
      have HY := Lib.hid hY16
      have HZ := Lib.hid hY17
      generalize hrest : Dig.restOf (S.map Dig.hexv) = rk at *
      have hrk : rk ≤ 240 := by omega
      have h1 : ((rk / 16 : Nat) : Int) = (rk : Int) / 16 := by omega
      have h2 : ((rk % 16 : Nat) : Int) = (rk : Int) % 16 := by omega
      rw [h1] at HY
      rw [h2] at HZ
      clear hrest hSl hSh hsz dlow d16 d17 hDl hY hJd hJ1 hb1 hBm h0 hY16 hY17 h1 h2 hta hrl hJs
      obtain ⟨fn, tmps, assign, body, hy, hR⟩ := HY.out
      clear HY
      gi_wp2
      refine hR.mono ?_
      clear hR hy
      rintro e W3 (⟨rfl, hJ3, -⟩ | ⟨rfl, hJx3⟩)
      · obtain ⟨fn, tmps, assign, body, hy, hR⟩ := HZ.out _ hJ3
        clear HZ
        gi_wp2
        refine hR.mono ?_
        clear hR hy
        rintro e W4 (⟨rfl, hJ4, -⟩ | ⟨rfl, hJx4⟩)
        · gi_wp2
          go_end0
          exact ⟨⟨_, rfl⟩, .inl ⟨_, rfl, by rw [upto_succ (show 17 < 18 by omega), upto_succ (show 16 < 18 by omega)]; exact hJ4⟩⟩
        · gi_wp2
          go_end0
          exact ⟨⟨_, rfl⟩, .inr ⟨_, hJx4⟩⟩
      · gi_wp2
        go_end0
        exact ⟨⟨_, rfl⟩, .inr ⟨_, hJx3⟩⟩
set_option maxRecDepth 100000 in
theorem digits_in (n : Nat) (msg : ByteArray) (w : World) :
    CallsIn Fence.wide n Tryd.prog 52 #[.string msg] w fun e w' => e = .returned (.func (.func 83) #[] #[.pointer (some ⟨w.heap.size, 0, none⟩)]) ∧ w' = w.alloc (.cells #[.string msg] 9) := by
  refine callsIn_of_wp Tryd.func52 rfl trivial ?_ rfl
  simp only [Tryd.ntmps52, List.size_toArray, List.length_cons, List.length_nil, Nat.reduceAdd, Nat.reduceSub, Array.replicate_succ, Array.replicate_zero, List.push_toArray, List.append_toArray, List.nil_append, List.cons_append]
  gi_wp2
  go_ret
  exact ⟨rfl, rfl⟩
theorem digits_stops (n : Nat) (hn : 1 ≤ n) (Bm : Nat) (msg : ByteArray) (hm : msg.size ≤ 140737488355328) (w : World) (hBm : Bm < w.heap.size) (hb : w.cell? ⟨Bm, 0, none⟩ = some (.string msg)) :
    SeqStopsK Fence.wide n Tryd.prog 83 #[.pointer (some ⟨Bm, 0, none⟩)] (fun x : Fin 18 => #[.int .i64 ((x.val : Nat) : Int), .int .i64 ((dAt (tx msg) x.val : Nat) : Int)]) (fun _ _ => True)
      (fun ys => ys = List.finRange 18) (fun _ => True) 18 w := fun l J Jx W hW hJ _ hY h0 => by
  refine (digits1_in n hn l Bm msg hm J Jx hY (fun pre W W' h hg => hJ pre _ _ none h hg (fun _ e => by cases e)) W ((hW.cell (p := ⟨Bm, 0, none⟩) hBm).trans hb) h0).mono ?_
  rintro e W' ⟨he, ⟨ys, rfl, hj⟩ | ⟨pre, hj⟩⟩
  · exact ⟨he, .inl ⟨_, upto_all 18, hj⟩⟩
  · exact ⟨he, .inr ⟨_, trivial, hj⟩⟩
end Go.Proofs.YteleheamnighkaaDoor
end
section
set_option linter.unusedVariables false
set_option linter.unusedSimpArgs false
namespace Go.Proofs.YteleheamnighkaaDoor
open Go.RowKit Go.Shelf Go.DoorKit Go.DoorRound Go.Proofs.YteleheamnighkaaDoorW.PrintWords Go.Proofs.YteleheamnighkaaDoorW.PrintLast Go.Proofs.YteleheamnighkaaDoorW.PrintMore
attribute [local go_sem] Oper.semAt_some
theorem kpt_t {n₀ Bs Bn : Nat} {A B C : World} (h : Kpt n₀ Bs Bn A B) (k : Kpt n₀ Bs Bn B C) : Kpt n₀ Bs Bn A C := ⟨h.1.trans k.1, k.2.1.trans h.2.1, k.2.2.trans h.2.2⟩
theorem add_block (A : Addr) (n : Nat) : (A.add n).block = A.block := by unfold Addr.add; split <;> rfl
def pairOf (l : List ByteArray) (j : Nat) : ByteArray := ofT (Dig.sum (Dig.nodeT (tx (l.getD (2 * j) ByteArray.empty)) (tx (l.getD (2 * j + 1) ByteArray.empty))))
set_option maxRecDepth 100000 in
set_option maxHeartbeats 2000000 in
theorem above_in (n : Nat) (hn : 3 ≤ n) (A : Addr) (m cap : Nat) (hm : m ≤ 500) (hcap : 2 * m ≤ cap) (l : List ByteArray) (w : World)
    (hcl : ∀ i, i < 2 * m → w.cell? (A.add i) = some (.string (l.getD i ByteArray.empty))) (hA : A.block < w.heap.size) (hs : ∀ s ∈ l, s.size ≤ 10000) (hl : l.length = 2 * m) (hG : Glob w) :
    CallsIn Fence.wide n Tryd.prog 49 #[.slice (some A) (2 * m) cap] w fun e W' => ∃ v, e = .returned v ∧ W'.ownsRow w.heap.size 9 1 v m ((List.finRange m).map fun j => Value.string (pairOf l j.val)) ∧ Below w.heap.size w W' := by
  have h1 : 1 ≤ n := by omega
  refine callsIn_of_wp_marks Tryd.func49 rfl trivial ?_ rfl
  simp only [Tryd.ntmps49, List.size_toArray, List.length_cons, List.length_nil, Nat.reduceAdd, Nat.reduceSub, Array.replicate_succ, Array.replicate_zero, List.push_toArray, List.append_toArray, List.nil_append, List.cons_append]
  gi_wp2_with (refine ⟨trivial, ?_⟩; gi_at_call 80; refine (chunk_in (n - 1) _ _ _ _).mono ?_; rintro e w' ⟨rfl, rfl⟩)
  have bO := Boxed.new w 22 (.slice none 0 0)
  have bS := Boxed.new (w.alloc (.cells #[.slice none 0 0] 22)) 22 (.slice (some A) (2 * m) cap)
  have bN := Boxed.new ((w.alloc (.cells #[.slice none 0 0] 22)).alloc (.cells #[.slice (some A) (2 * m) cap] 22)) 3 (.int .i64 2)
  simp only [World.size_alloc] at bS bN
  have hB0 : Below w.heap.size w (((w.alloc (.cells #[.slice none 0 0] 22)).alloc (.cells #[.slice (some A) (2 * m) cap] 22)).alloc (.cells #[.int .i64 2] 3)) :=
    (((Below.refl _ w).alloc (Nat.le_refl _) _).alloc (by simp) _).alloc (by simp; omega) _
  obtain ⟨W0, hW0⟩ : ∃ W0, ((w.alloc (.cells #[.slice none 0 0] 22)).alloc (.cells #[.slice (some A) (2 * m) cap] 22)).alloc (.cells #[.int .i64 2] 3) = W0 := ⟨_, rfl⟩
  have hsz : W0.heap.size = w.heap.size + 3 := by rw [← hW0]; simp
  have bO' := (bO.alloc (.cells #[.slice (some A) (2 * m) cap] 22)).alloc (.cells #[.int .i64 2] 3)
  have bS' := bS.alloc (.cells #[.int .i64 2] 3)
  rw [hW0] at bO' bS' bN hB0 ⊢
  clear bO bS
  have hst := chunk_stops (n - 1) (by omega) (w.heap.size + 1) (w.heap.size + 1 + 1) w.heap.size A m cap hm hcap W0 (by omega) (by omega) bS'.cell bN.cell
  have h1o := holdsRow_own (β := List (Fin m)) w.heap.size w.heap.size 22 9 1 (fun pre => pre.length) (fun pre => pre.map fun j => Value.string (pairOf l j.val)) (fun pre v => True)
  have o1 : OwnFrom W0.heap.size (fun (pre : List (Fin m)) W => ∃ v, Boxed W w.heap.size 22 v ∧ W.ownsRow w.heap.size 9 1 v pre.length (pre.map fun j => Value.string (pairOf l j.val)) ∧ True) := fun pre X Y row hs hg hr => h1o pre X Y row hs hg (fun r e => (hr r e).2)
  have o2 : OwnFrom W0.heap.size (fun (pre : List (Fin m)) W => Boxed W (w.heap.size + 1) 22 (.slice (some A) (2 * m) cap)) := Own.from (boxed_own _ _ _) _
  have o3 : OwnFrom W0.heap.size (fun (pre : List (Fin m)) W => Boxed W (w.heap.size + 1 + 1) 3 (.int .i64 2)) := Own.from (boxed_own _ _ _) _
  have o4 : OwnFrom W0.heap.size (fun (pre : List (Fin m)) W => Below w.heap.size w W) := ownFrom_below (Nat.le_refl _) (by omega)
  have hKb : ∀ (W : World) (l : Nat) (o o' : Obj), W0.heap.size ≤ l → W.heap[l]? = some o → o.isCells = false → o.isWalk = false → Kpt w.heap.size (w.heap.size + 1) (w.heap.size + 1 + 1) W (W.putObj l o') := by
    intro W l o o' hl ho hc1 hw1
    refine ⟨belowK_b (w := w) (Nat.le_refl _) W l o o' (by omega) ho hc1 hw1, ?_, ?_⟩
    · exact World.cell?_of_block (World.putObj_heap_other (k := w.heap.size + 1) (by omega))
    · exact World.cell?_of_block (World.putObj_heap_other (k := w.heap.size + 1 + 1) (by omega))
  refine wpIn_rangeFunc_ownG rfl h1 (gf := 92) (lb := #[.pointer (some ⟨w.heap.size + 1, 0, none⟩), .pointer (some ⟨w.heap.size + 1 + 1, 0, none⟩)]) rfl trivial (enters_of Tryd.func92 (by kernel_rfl) rfl)
    hst kpt_t hKb (Below.refl _ _) (fun _ => rfl) _ (fun _ _ _ => False) (OwnFrom.and (OwnFrom.and o1 (OwnFrom.and o2 o3)) o4) (fun _ _ _ _ _ hs _ _ => hs) ⟨⟨⟨_, bO', World.ownsRow_nil _ _ _ _, trivial⟩, bS', bN⟩, hB0⟩
    (fun x => { tmps := #[.slice (some A) (2 * m) cap, undef, .slice none 0 0, .pointer (some ⟨w.heap.size, 0, none⟩), .slice (some (A.add (2 * x.val))) 2 2, .slice (some A) (2 * m) cap, .func (.func 92) #[] #[.pointer (some ⟨w.heap.size + 1, 0, none⟩), .pointer (some ⟨w.heap.size + 1 + 1, 0, none⟩)], .slice (some (A.add (2 * x.val))) 2 2, undef, undef, undef, undef, undef, undef, undef, undef, undef, undef, undef], defers := [] }) ?assign ?body ?done ?stop
  case assign =>
    intro l x W K hK
    gi_wp2
    exact hK
  case body =>
    rintro lr pre x W ⟨⟨⟨v, hv, hrow, -⟩, hbs, hbn⟩, hB⟩ hlt
    have hc := hv.cell
    refine wpIn_block ?_
    refine region_in (noDefer_of (by kernel_rfl)) ?hlo (by kernel_rfl) ?_
    case hlo => rintro ⟨a, w', h⟩; exact h
    have hx1 : 2 * x.val + 1 < 2 * m := by have := x.isLt; omega
    have r0 : W.cell? (A.add (2 * x.val)) = some (.string (l.getD (2 * x.val) ByteArray.empty)) := (hB.cell (p := A.add (2 * x.val)) (by rw [add_block]; exact hA)).trans (hcl _ (by omega))
    have r1 : W.cell? ((A.add (2 * x.val)).add 1) = some (.string (l.getD (2 * x.val + 1) ByteArray.empty)) := by
      rw [Addr.add_add]; exact (hB.cell (p := A.add (2 * x.val + 1)) (by rw [add_block]; exact hA)).trans (hcl _ hx1)
    replace r1 : W.cell? ⟨(A.add (2 * x.val)).block, (A.add (2 * x.val)).off + 1, none⟩ = some (.string (l.getD (2 * x.val + 1) ByteArray.empty)) := r1
    generalize hta : l.getD (2 * x.val) ByteArray.empty = ta at r0
    generalize htb : l.getD (2 * x.val + 1) ByteArray.empty = tb at r1
    refine wpAny_of_last (S := fun w' => w'.cell? ⟨w.heap.size, 0, none⟩ = some v ∧ w'.cell? (A.add (2 * x.val)) = some (.string ta) ∧ w'.cell? ⟨(A.add (2 * x.val)).block, (A.add (2 * x.val)).off + 1, none⟩ = some (.string tb)) (ds := [9, 10]) _ _ _ _ ?_
    show wpAnyLast _ _ _ _ _ _ 11 (#[false, false, false, false, false, false, false, false, false, false, false] : Array Bool) _ W.drew
    have hHeld : W.drew.cell? ⟨w.heap.size, 0, none⟩ = some v ∧ W.drew.cell? (A.add (2 * x.val)) = some (.string ta) ∧ W.drew.cell? ⟨(A.add (2 * x.val)).block, (A.add (2 * x.val)).off + 1, none⟩ = some (.string tb) := ⟨hc, r0, r1⟩
    generalize hWd : W.drew = Wd at hHeld ⊢
    refine take_ (i := 0) (N := some 8) (v := ?_) (a' := ?_) #[true, false, false, false, false, false, false, false, false, false, false] rfl rfl (take_of rfl (by kernel_rfl)) (fun _ _ _ h => h) (Or.inl ⟨by rfl, ?_⟩) hHeld ?_ ?_
    rotate_left
    · rintro w' ⟨s0, s1, s2⟩
      go_simp
      with_reducible rfl
    rotate_left
    · simp only [Act.put, List.setIfInBounds_toArray, List.set_cons_zero, List.set_cons_succ, i64_w, i32_w]
      rfl
    refine pure_ (i := 1) (N := some 9) (v := ?_) (a' := ?_) #[true, true, false, false, false, false, false, false, false, false, false] rfl rfl (any_of rfl (by kernel_rfl)) (fun _ _ _ h => h) (Or.inl ⟨by rfl, ?_⟩) ?_ ?_
    rotate_left
    · intro w'
      go_simp
      with_reducible rfl
    rotate_left
    · simp only [Act.put, List.setIfInBounds_toArray, List.set_cons_zero, List.set_cons_succ, i64_w, i32_w]
      rfl
    refine pure_ (i := 2) (N := some 10) (v := ?_) (a' := ?_) #[true, true, true, false, false, false, false, false, false, false, false] rfl rfl (any_of rfl (by kernel_rfl)) (fun _ _ _ h => h) (Or.inl ⟨by rfl, ?_⟩) ?_ ?_
    rotate_left
    · intro w'
      go_simp
      with_reducible rfl
    rotate_left
    · simp only [Act.put, List.setIfInBounds_toArray, List.set_cons_zero, List.set_cons_succ, i64_w, i32_w]
      rfl
    refine take_ (i := 3) (N := some 11) (v := ?_) (a' := ?_) #[true, true, true, true, false, false, false, false, false, false, false] rfl rfl (take_of rfl (by kernel_rfl)) (fun _ _ _ h => h) (Or.inl ⟨by rfl, ?_⟩) hHeld ?_ ?_
    rotate_left
    · rintro w' ⟨s0, s1, s2⟩
      go_simp
      with_reducible rfl
    rotate_left
    · simp only [Act.put, List.setIfInBounds_toArray, List.set_cons_zero, List.set_cons_succ, i64_w, i32_w]
      rfl
    refine pure_ (i := 4) (N := some 12) (v := ?_) (a' := ?_) #[true, true, true, true, true, false, false, false, false, false, false] rfl rfl (any_of rfl (by kernel_rfl)) (fun _ _ _ h => h) (Or.inl ⟨by rfl, ?_⟩) ?_ ?_
    rotate_left
    · intro w'
      go_simp
      with_reducible rfl
    rotate_left
    · simp only [Act.put, List.setIfInBounds_toArray, List.set_cons_zero, List.set_cons_succ, i64_w, i32_w]
      rfl
    refine pure_ (i := 5) (N := some 13) (v := ?_) (a' := ?_) #[true, true, true, true, true, true, false, false, false, false, false] rfl rfl (any_of rfl (by kernel_rfl)) (fun _ _ _ h => h) (Or.inl ⟨by rfl, ?_⟩) ?_ ?_
    rotate_left
    · intro w'
      go_simp
      with_reducible rfl
    rotate_left
    · simp only [Act.put, List.setIfInBounds_toArray, List.set_cons_zero, List.set_cons_succ, i64_w, i32_w]
      rfl
    refine take_ (i := 6) (N := some 14) (v := ?_) (a' := ?_) #[true, true, true, true, true, true, true, false, false, false, false] rfl rfl (take_of rfl (by kernel_rfl)) (fun _ _ _ h => h) (Or.inl ⟨by rfl, ?_⟩) hHeld ?_ ?_
    rotate_left
    · rintro w' ⟨s0, s1, s2⟩
      go_simp
      with_reducible rfl
    rotate_left
    · simp only [Act.put, List.setIfInBounds_toArray, List.set_cons_zero, List.set_cons_succ, i64_w, i32_w]
      rfl
    have hx1' : 2 * x.val + 1 < l.length := by omega
    obtain ⟨r, hr⟩ : ∃ r, r = pairOf l x.val := ⟨_, rfl⟩
    have hf : seal_node.f ta tb false = some r := by
      unfold seal_node.f
      rw [if_pos ⟨by rw [← hta]; exact hs _ (getD_mem (by omega)), by rw [← htb]; exact hs _ (getD_mem hx1')⟩, hr, ← hta, ← htb]; rfl
    have Hr := Aside0.mk hr
    clear hr
    have hbd : Below w.heap.size w Wd := by rw [← hWd]; exact hB.drew
    refine one_ (i := 7) (N := some 15) #[true, true, true, true, true, true, true, true, false, false, false] rfl rfl (one_of rfl (by kernel_rfl)) (by decide) (fun K hK => ?_)
    refine goes_ Tryd.func64 (by kernel_rfl) rfl #[.string ta, .string tb, .bool false] (by rfl) rfl rfl (by (try simp only [List.map_toArray, List.map_cons, List.map_nil]); first | done | rfl) ?_
    refine (seal_node.calls _ _ false r Wd hf (Glob.below hG hbd)).mono ?_
    rintro e W1 ⟨rfl, hb⟩
    refine ⟨_, rfl, ?_⟩
    have hgd : Wd.grownBy W1 none := ⟨hb.os, hb.tape, hb.output, hb.size, fun k hk _ => hb.block k hk⟩
    have hvd : Boxed Wd w.heap.size 22 v := by rw [← hWd]; exact hv
    have hrd : Wd.ownsRow w.heap.size 9 1 v pre.length (pre.map fun j => Value.string (pairOf l j.val)) := by rw [← hWd]; exact hrow.drew
    have bv : Boxed W1 w.heap.size 22 v := hvd.kept hgd (by simp)
    have brow : W1.ownsRow w.heap.size 9 1 v pre.length (pre.map fun j => Value.string (pairOf l j.val)) := hrd.kept hgd (Classical.em _)
    have hB1 : Below w.heap.size w W1 := hbd.trans (hb.mono hbd.size)
    refine hK.out _ _ ⟨bv.cell, (hb.cell (World.block_lt_of_cell? _ _ hHeld.2.1)).trans hHeld.2.1, (hb.cell (World.block_lt_of_cell? _ _ hHeld.2.2)).trans hHeld.2.2⟩ (fun hHeld1 => ?_)
    clear hK K
    refine norm_ (a' := ?_) ?_ ?_
    rotate_left
    · show Act.put _ (some 15) _ = _
      simp only [Act.put, List.setIfInBounds_toArray, List.set_cons_zero, List.set_cons_succ, i64_w, i32_w]
      rfl
    refine one_ (i := 8) (N := some 16) #[true, true, true, true, true, true, true, true, true, false, false] rfl rfl (one_of rfl (by kernel_rfl)) (by decide) (fun K hK => ?_)
    refine value_ (w1 := ?_) (v := ?_) (by rfl) rfl ?_ ?_
    rotate_left 2
    · go_simp
      constructor
      · rfl
      · rfl
    refine hK.out _ _ ⟨(bv.alloc _).cell, (World.cell?_alloc_lt _ _ _ (World.block_lt_of_cell? _ _ hHeld1.2.1)).trans hHeld1.2.1, (World.cell?_alloc_lt _ _ _ (World.block_lt_of_cell? _ _ hHeld1.2.2)).trans hHeld1.2.2⟩ (fun hHeld2 => ?_)
    clear hK K
    refine norm_ (a' := ?_) ?_ ?_
    rotate_left
    · show Act.put _ (some 16) _ = _
      simp only [Act.put, List.setIfInBounds_toArray, List.set_cons_zero, List.set_cons_succ, i64_w, i32_w]
      rfl
    refine last_ (i := 9) (N := some 17) #[true, true, true, true, true, true, true, true, true, true, false] rfl rfl (one_of rfl (by kernel_rfl)) (by decide) (fun K hK => ?_)
    refine step_append_cells (w0 := w) w.heap.size ?hwant (.tmp 8) (.tmp 16) 22 9 (.string ⟨#[]⟩) 1 16 ?hop Tryd.underlying22 PCb.info9 rfl (by decide) (by omega) v pre.length _ [.string r] ?hsv ?hxv rfl (by simp [Value.oneCell']) brow hB1 hB1.size (by omega) ?_
    (case hop => rfl)
    (case hwant => rfl)
    (case hsv => rfl)
    (case hxv => rfl)
    intro v1 w2 hown2 hb2 hg2 hat2
    obtain ⟨g', cap', rfl⟩ := ownsRow_succ hown2
    refine hK.out _ _ ?_
    clear hK K
    refine norm_ (a' := ?_) ?_ ?_
    rotate_left
    · show Act.put _ (some 17) _ = _
      simp only [Act.put, List.setIfInBounds_toArray, List.set_cons_zero, List.set_cons_succ, i64_w, i32_w]
      rfl
    have bv2 : Boxed w2 w.heap.size 22 v := bv.kept hg2 (bv.not_row (by decide) brow)
    have hc2 := bv2.cell
    have hf2 := bv2.frozen
    refine last_ (i := 10) (N := none) #[true, true, true, true, true, true, true, true, true, true, true] rfl rfl (one_of rfl (by kernel_rfl)) (by decide) (fun K hK => ?_)
    refine skip_ (w1 := ?_) (by rfl) rfl ?_ ?_
    rotate_left
    · go_simp
      rfl
    refine hK.out _ _ ?_
    clear hK K
    refine done_ (done_of rfl (by kernel_rfl)) ?_
    clear hc2 hf2
    have hsW : W.heap.size ≤ W1.heap.size := by have := hb.size; have e : Wd.heap.size = W.heap.size := by rw [← hWd]; rfl
                                                omega
    have bs1 : Boxed W1 (w.heap.size + 1) 22 (.slice (some A) (2 * m) cap) := Boxed.kept (W := Wd) (by rw [← hWd]; exact hbs) hgd (by simp)
    have bn1 : Boxed W1 (w.heap.size + 1 + 1) 3 (.int .i64 2) := Boxed.kept (W := Wd) (by rw [← hWd]; exact hbn) hgd (by simp)
    have bs2 := bs1.kept hg2 (bs1.not_row (by decide) brow)
    have bn2 := bn1.kept hg2 (bn1.not_row (by decide) brow)
    have bs3 := bs2.other (B' := w.heap.size) (by omega) (.slice (some ⟨g', 0, none⟩) (pre.length + 1) cap')
    have bn3 := bn2.other (B' := w.heap.size) (by omega) (.slice (some ⟨g', 0, none⟩) (pre.length + 1) cap')
    have hB3 : Below w.heap.size w (w2.setCell ⟨w.heap.size, 0, none⟩ (.slice (some ⟨g', 0, none⟩) (pre.length + 1) cap')) := hb2.setCell (p := ⟨w.heap.size, 0, none⟩) (Nat.le_refl _) _
    have bv3 := bv2.set (.slice (some ⟨g', 0, none⟩) (pre.length + 1) cap')
    have hown3 := hown2.kept (grownBy_setCell' w2 w.heap.size (.slice (some ⟨g', 0, none⟩) (pre.length + 1) cap')) (.inr (bv2.not_row (by decide) hown2).symm)
    have k1 : KeepsOthers W W1 := KeepsOthers.of_grownBy (row := none) (by rw [← hWd] at hgd; exact ⟨hgd.os, hgd.tape, hgd.output, hgd.size, hgd.block⟩) (fun j o ej _ => by cases ej)
    have k2 : KeepsOthers W1 w2 := KeepsOthers.of_grownBy hg2 fun j o ej hj => by
      rcases brow.2 with ⟨rfl, _⟩ | ⟨g, cap, cur, rfl, _, hgb, _⟩
      · simp [Value.ownBlock] at ej
      · obtain rfl : j = g := by simpa [Value.ownBlock] using ej.symm
        rw [hgb] at hj; cases hj; rfl
    have k3 := (k1.trans k2).trans (KeepsOthers.setCell w2 ⟨w.heap.size, 0, none⟩ (.slice (some ⟨g', 0, none⟩) (pre.length + 1) cap'))
    refine ⟨k3.from _, ⟨⟨hB3.os.trans hB.os.symm, hB3.tape.trans hB.tape.symm, hB3.output.trans hB.output.symm, k3.size, fun k hk => (hB3.block k hk).trans (hB.block k hk).symm⟩, bs3.cell.trans hbs.cell.symm, bn3.cell.trans hbn.cell.symm⟩, ⟨⟨⟨_, bv3, ?_, trivial⟩, bs3, bn3⟩, hB3⟩⟩
    rw [List.length_append, List.map_append, List.map_cons, List.map_nil, ← Hr.out]
    exact hown3
  case done =>
    rintro D ys W hD rfl ⟨⟨⟨v, hv, hrow, -⟩, hbs, hbn⟩, hB⟩ hK
    have hc := hv.cell
    gi_wp2
    refine ⟨by simp, .inl ⟨_, _, rfl, run_takeDeferred hK, ?_⟩⟩
    have hrow' := ownsRow_putObj hrow (.deferred none) hK rfl
    rw [List.length_finRange] at hrow'
    exact ⟨_, results_tmp rfl _ _ _, v, rfl, hrow', hB.trans (belowK_b (w := w) (Nat.le_refl _) W D _ _ (by omega) hK rfl rfl)⟩
  case stop =>
    rintro D c pre W _ _ h _
    exact h.elim
end Go.Proofs.YteleheamnighkaaDoor
end
section
set_option linter.unusedVariables false
namespace Go.Proofs.YteleheamnighkaaDoor
open Go.RowKit Go.DoorKit Go.Proofs.YteleheamnighkaaDoorW.PrintWords
def Pairs (l : List ByteArray) : Prop := Level l ∧ l.length % 2 = 0 ∧ 0 < l.length
instance (l : List ByteArray) : Decidable (Pairs l) := inferInstanceAs (Decidable (Level l ∧ l.length % 2 = 0 ∧ 0 < l.length))
theorem upL_pairs : ∀ (m : Nat) (l : List ByteArray), l.length = 2 * m → (List.finRange m).map (fun j => pairOf l j.val) = upL l
  | 0, [], _ => rfl
  | 0, _ :: _, h => by simp at h
  | m + 1, [], h => by simp at h; 
  | m + 1, [_], h => by simp at h; omega
  | m + 1, a :: b :: l, h => by
    rw [List.finRange_succ, List.map_cons, List.map_map, upL]
    have ih := upL_pairs m l (by simp only [List.length_cons] at h; omega)
    rw [← ih]
    rfl
def seal_above.f (l0 : List ByteArray) : Option (List ByteArray) := if Pairs l0 then some (upL l0) else none
theorem seal_above.calls (A0 : Option Addr) (c0 : Nat) (l0 : List ByteArray) (r : List ByteArray) (w : World) (hr0 : Kd.C Kd.string w A0 l0.length l0) (hc0 : l0.length ≤ c0) (h : seal_above.f l0 = some r) (hG : Glob w) :
    Calls Tryd.prog 49 #[.slice A0 l0.length c0] w fun e w' => ∃ v0_ : Value, e = .returned (v0_) ∧ Kd.R Kd.string 9 w' w.heap.size (fun _ => True) v0_ r ∧ Below w.heap.size w w' := by
  obtain ⟨⟨hl, h2, h0⟩, rfl⟩ := if_out h
  obtain ⟨m, hm⟩ : ∃ m, l0.length = 2 * m := ⟨l0.length / 2, by omega⟩
  have hlen := hl.1
  obtain ⟨A, rfl, hA0⟩ := Kd.at_string hr0 0 (Int.le_refl _) (by omega)
  have hcl : ∀ i, i < 2 * m → w.cell? (A.add i) = some (.string (l0.getD i ByteArray.empty)) := fun i hi => by
    obtain ⟨ad, e, hc⟩ := Kd.at_string hr0 (i : Int) (by omega) (by omega)
    obtain rfl := Option.some.inj e
    exact hc
  have hAb : A.block < w.heap.size := by
    have := World.block_lt_of_cell? w _ hA0
    rwa [add_block] at this
  rw [hm]
  refine (callsIn_wide (n := 3)).1 ((above_in 3 (Nat.le_refl _) A m c0 (by omega) (by omega) l0 w hcl hAb hl.2 hm hG).mono ?_)
  rintro e w' ⟨v, rfl, hown, hb⟩
  refine ⟨v, rfl, Kd.R_of_own ?_ (fun _ _ => trivial), hb⟩
  rw [← upL_pairs m l0 hm]
  have e : encs Value.string ((List.finRange m).map fun j => pairOf l0 j.val) = (List.finRange m).map fun j => Value.string (pairOf l0 j.val) := by unfold encs; rw [List.map_map]; rfl
  rw [e, List.length_map, List.length_finRange]
  exact hown
end Go.Proofs.YteleheamnighkaaDoor
end
section
namespace Go.Proofs.YteleheamnighkaaDoor.PCg
open Go.RowKit Go.Proofs.YteleheamnighkaaDoorW.PrintWords Go.Proofs.YteleheamnighkaaDoorW.PrintLast Go.Proofs.YteleheamnighkaaDoorW.PrintMore
attribute [local go_sem] max2_int min2_int max_two min_two max_three min_three max_four min_four   -- for this text's walks alone
set_option linter.unusedVariables false
set_option linter.unusedSimpArgs false
def errW : Option Int → Value
  | none => .nilIface
  | some c => .iface 0 (.int .i64 c)
theorem errW_none : errW none = .nilIface := rfl
theorem errW_some (c : Int) : errW (some c) = .iface 0 (.int .i64 c) := rfl
theorem info9 : (Tryd.prog.info? 9).map (fun i => (i.zero, i.size, i.bytes)) = some (some (.string ⟨#[]⟩), 1, 16) := by kernel_rfl
end Go.Proofs.YteleheamnighkaaDoor.PCg
end
section
namespace Go.Proofs.YteleheamnighkaaDoor.PCg
open Go.RowKit Go.Proofs.YteleheamnighkaaDoorW.PrintWords Go.Proofs.YteleheamnighkaaDoorW.PrintLast Go.Proofs.YteleheamnighkaaDoorW.PrintMore
attribute [local go_sem] max2_int min2_int max_two min_two max_three min_three max_four min_four   -- for this text's walks alone
set_option linter.unusedVariables false
set_option linter.unusedSimpArgs false
def seal_keys.l0 : Nat → ByteArray → List ByteArray → Int → Int → Option (List ByteArray)
  | 0, _, _, _, _ => none
  | k + 1, x0, x5, x11, x12 => if x12 < x11 then ((seal_key.f x0 x12).bind fun t104 => (if 0 ≤ x12 then (if x12 < (x5.length : Int) then (seal_keys.l0 k x0 (x5.set (x12 : Int).toNat t104) x11 (wrap64 (x12 + 1))) else (none)) else (none))) else (some x5)
def seal_keys.f (k : Nat) (a0 : ByteArray) (a1 : Int) : Option (List ByteArray) := if 0 ≤ a1 then (if 0 ≤ (shl .i64 1 a1) then (if (shl .i64 1 a1 : Int).toNat ≤ 17592186044416 then ((some (List.replicate (shl .i64 1 a1 : Int).toNat (⟨#[]⟩ : ByteArray) : List ByteArray)).bind fun y101 => (seal_keys.l0 k a0 y101 (y101.length : Int) 0)) else (none)) else (none)) else (none)
set_option maxHeartbeats 8000000 in
set_option maxRecDepth 100000 in
theorem seal_keys.calls (k : Nat) (a0 : ByteArray) (a1 : Int) (r : List ByteArray) (w : World) (h : seal_keys.f k a0 a1 = some r) (hG : Glob w) :
    Calls Tryd.prog 48 #[.string a0, .int .i64 a1] w fun e w' => ∃ v0_ : Value, e = .returned (v0_) ∧ Kd.R Kd.string 9 w' w.heap.size (fun _ => True) v0_ r ∧ Below w.heap.size w w' := by
  have HG_ := Aside0.mk hG
  clear hG
  have HB := Aside0.mk (Below.refl w.heap.size w)
  have H : (if 0 ≤ a1 then (if 0 ≤ (shl .i64 1 a1) then (if (shl .i64 1 a1 : Int).toNat ≤ 17592186044416 then ((some (List.replicate (shl .i64 1 a1 : Int).toNat (⟨#[]⟩ : ByteArray) : List ByteArray)).bind fun y101 => (seal_keys.l0 k a0 y101 (y101.length : Int) 0)) else (none)) else (none)) else (none)) = some r := h
  clear h
  by_cases c3 : 0 ≤ a1
  · rw [if_pos c3] at H
    have c3b0 := eq_true c3
    have c3b1 : decide (0 ≤ a1) = true := decide_eq_true c3
    clear c3
    obtain ⟨ji4, hji4⟩ : ∃ j_ : Int, (shl .i64 1 a1) = j_ := ⟨_, rfl⟩
    replace H : (if 0 ≤ (ji4) then (if (ji4 : Int).toNat ≤ 17592186044416 then ((some (List.replicate (ji4 : Int).toNat (⟨#[]⟩ : ByteArray) : List ByteArray)).bind fun y101 => (seal_keys.l0 k a0 y101 (y101.length : Int) 0)) else (none)) else (none)) = some r := by first | (rw [hji4] at H; exact H) | (simp only [hji4] at H ⊢; exact H)
    have hji4_ : (IntKind.i64.wrap (1 * 2 ^ min a1.toNat 64)) = ji4 := hji4
    have hji4z : a1 ≤ 64 → (IntKind.i64.wrap (1 * 2 ^ a1.toNat)) = ji4 := shl_small hji4
    have hji4u : (IntKind.i64.wrap (2 ^ min a1.toNat 64)) = ji4 := by have h_ := hji4_; rw [Int.one_mul] at h_; exact h_
    have hji4v : a1 ≤ 64 → (IntKind.i64.wrap (2 ^ a1.toNat)) = ji4 := fun hle_ => by have h_ := hji4z hle_; rw [Int.one_mul] at h_; exact h_
    have hji4y : (wrap64 (1 * 2 ^ min a1.toNat 64)) = ji4 := (i64_w _).symm.trans hji4_
    have hji4x : a1 ≤ 64 → (wrap64 (1 * 2 ^ a1.toNat)) = ji4 := fun h_ => (i64_w _).symm.trans (hji4z h_)
    by_cases c5 : 0 ≤ (ji4)
    · rw [if_pos c5] at H
      have c5b0 := eq_true c5
      have c5b1 : decide (0 ≤ (ji4)) = true := decide_eq_true c5
      clear c5
      by_cases c6 : (ji4 : Int).toNat ≤ 17592186044416
      · rw [if_pos c6] at H
        have c6b0 := eq_true c6
        have c6b1 : decide ((ji4 : Int).toNat ≤ 17592186044416) = true := decide_eq_true c6
        clear c6
        obtain ⟨y101, hy101⟩ : ∃ y_ : List ByteArray, y_ = (List.replicate (ji4 : Int).toNat (⟨#[]⟩ : ByteArray)) := ⟨_, rfl⟩
        replace H : (seal_keys.l0 k a0 y101 (y101.length : Int) 0) = some r := by first | (rw [hy101]; with_reducible exact H) | (have H2_ := (Option.bind_some _ _).symm.trans H; rw [hy101]; with_reducible exact H2_) | (have H2_ := (Option.bind_some _ _).symm.trans H; with_reducible exact H2_) | with_reducible exact H | (rw [hy101]; exact H) | exact H
        have Ny101 := Aside0.mk hy101
        clear hy101
        have H' := Aside0.mk H
        clear H
        go_enter Tryd.func48, Tryd.ntmps48
        go_wp2_with (first | ((with_reducible refine gate_dst (N := 9) rfl ?_); refine Kd.R_make Kd.string _ 9 rfl (N := 9) rfl 22 _ _ rfl ji4 rfl rfl Tryd.underlying22 (.string ⟨#[]⟩) 16 info9 rfl (by decide) (by omega) (⟨#[]⟩ : ByteArray) (ok := fun _ => True) (okp := fun _ => True) rfl (fun _ hk => hk) trivial (of_decide_eq_true (by first | (with_reducible assumption) | assumption)) (Nat.le_trans (Nat.mul_le_mul_right _ (of_decide_eq_true (by first | (with_reducible assumption) | assumption) : ji4.toNat ≤ 17592186044416)) (by omega)) (Below.refl _ _) (Nat.le_refl _) ?_; intro v102 w7 ho8 hb hg_ hnew_; clear hg_ hnew_; (first | rw [← Ny101.out] at ho8 | (simp only [Int.reduceToNat] at ho8; rw [← Ny101.out] at ho8)); have n0_ := Aside0.mk (Kd.R_lower ho8 (below_size (by repeat (first | (with_reducible first | exact HB.out | apply below_alloc | apply pw_below_drewN | apply below_drew1) | exact HB.out)))); have n1_ := Aside0.mk (below_step (by repeat (first | (with_reducible first | exact HB.out | apply below_alloc | apply pw_below_drewN | apply below_drew1) | exact HB.out)) hb); clear HB; have HO103 := n0_; have HB := n1_; clear n0_ n1_; clear hb ho8; obtain ⟨Ao9, co9, eo9⟩ := Kd.R_slice HO103.out; subst eo9))
        go_loopg [12] k (fun kq v12 w' => ∃ (x5_1 : List ByteArray) (x12_1 : Int), v12 = .int .i64 x12_1 ∧ Aside0 (seal_keys.l0 kq a0 x5_1 (y101.length : Int) x12_1 = some r) ∧ Aside0 (kq ≤ k) ∧ Aside0 (Kd.R Kd.string 9 w' w.heap.size (fun _ => True) (.slice Ao9 y101.length co9) x5_1) ∧ Aside0 (Below w.heap.size w w'))
        case atStart => exact ⟨(y101), (0), (by first | rfl | (simp; done) | (simp [*]; done)), H', ⟨Nat.le_refl _⟩, ⟨by (with_reducible repeat (first | apply Kd.R_alloc | apply Kd.R_drewN | apply Kd.R_drew)); exact HO103.out⟩, ⟨by repeat (first | (with_reducible first | exact HB.out | apply below_alloc | apply pw_below_drewN | apply below_drew1) | exact HB.out)⟩⟩
        case round =>
          clear H'
          try clear p2
          try clear c3
          try clear c3b0
          try clear c3b1
          try clear c4
          try clear c5
          try clear c5b0
          try clear c5b1
          try clear c6
          try clear c6b0
          try clear c6b1
          try clear p6
          obtain ⟨x5_1, x12_1, rfl, HA, HK1, HO_5, HB⟩ := hrel
          have hl5_1 := (Kd.R_reads' HO_5.out).1
          rw [hl5_1] at HO_5
          (try simp only [hl5_1])
          cases gk with
          | zero => exact absurd HA.out (by simp [seal_keys.l0])
          | succ k1 =>
            have H := HA.out
            clear HA
            simp only [seal_keys.l0] at H
            by_cases c10 : x12_1 < (y101.length : Int)
            · rw [if_pos c10] at H
              have c10b0 : decide (x12_1 < (y101.length : Int)) = true := decide_eq_true c10
              have c10x : decide (x12_1 < (x5_1.length : Int)) = true := by rw [← hl5_1]; exact c10b0
              clear c10
              replace H := Option.bind_eq_some_iff.mp H
              obtain ⟨t104, A110, H⟩ := H
              replace H : (if 0 ≤ x12_1 then (if x12_1 < (x5_1.length : Int) then (seal_keys.l0 k1 a0 (x5_1.set (x12_1 : Int).toNat t104) (y101.length : Int) (wrap64 (x12_1 + 1))) else (none)) else (none)) = some r := H
              have A11 := Aside0.mk A110
              clear A110
              by_cases c12 : 0 ≤ x12_1
              · rw [if_pos c12] at H
                have c12b0 : decide (0 ≤ x12_1) = true := decide_eq_true c12
                clear c12
                by_cases c13 : x12_1 < (x5_1.length : Int)
                · rw [if_pos c13] at H
                  have c13b0 : decide (x12_1 < (x5_1.length : Int)) = true := decide_eq_true c13
                  clear c13
                  obtain ⟨y105, hy105⟩ : ∃ y_ : List ByteArray, y_ = (x5_1.set (x12_1 : Int).toNat t104) := ⟨_, rfl⟩
                  replace H : (seal_keys.l0 k1 a0 y105 (y101.length : Int) (wrap64 (x12_1 + 1))) = some r := by first | (rw [hy105]; with_reducible exact H) | (have H2_ := (Option.bind_some _ _).symm.trans H; rw [hy105]; with_reducible exact H2_) | (have H2_ := (Option.bind_some _ _).symm.trans H; with_reducible exact H2_) | with_reducible exact H | (rw [hy105]; exact H) | exact H
                  have Ny105 := Aside0.mk hy105
                  clear hy105
                  have H' := Aside0.mk H
                  clear H
                  go_wp2_with (first | ((with_reducible refine gate_callee (f := 79) rfl ?_); refine goesL_ (some 19) rfl rfl Tryd.func79 (by kernel_rfl) rfl #[.string a0, .int .i64 x12_1] rfl (by (try simp only [List.map_toArray, List.map_cons, List.map_nil]); first | done | rfl | (simp only [List.length_drop, List.length_take]; rfl)) ?_; (with_reducible refine (seal_key.calls a0 x12_1 t104 _ A11.out (hG := ?hGl)).mono ?_); clear A11; (case hGl => exact (Glob.below HG_.out (by repeat (first | (with_reducible first | exact HB.out | apply below_alloc | apply pw_below_drewN | apply below_drew1) | exact HB.out)))); rintro e w15 ⟨rfl, hb⟩; refine ⟨_, rfl, ?_⟩; have n0_ := Aside0.mk (Kd.R_below (by (with_reducible repeat (first | apply Kd.R_alloc | apply Kd.R_drewN | apply Kd.R_drew)); exact HO_5.out) hb); have n1_ := Aside0.mk (below_step (by repeat (first | (with_reducible first | exact HB.out | apply below_alloc | apply pw_below_drewN | apply below_drew1) | exact HB.out)) hb); clear HO_5; clear HB; have HO_5 := n0_; have HB := n1_; clear n0_ n1_; (try clear hb); (try clear hb2); (try clear hk); (try clear hi); have p14 : 0 ≤ (x12_1 : Int) := of_decide_eq_true (by first | (with_reducible assumption) | assumption); have q14 : (x12_1 : Int) < ((x5_1.length : Int) : Int) := of_decide_eq_true (by first | (with_reducible assumption) | assumption); obtain ⟨go14, co14, eo14, gb14, gl14, cl14, HG14⟩ := Kd.R_form HO_5.out (by omega); (first | cases eo14 | (injection eo14 with ea_ en_ ec_; (first | subst ea_ | (injection ea_ with ea_; subst ea_)); subst ec_; clear en_)); have GB14 := Aside0.mk gb14; have GG14 := Aside0.mk HG14; clear gb14 gl14 HG14; obtain ⟨hx14_0, hf14_0⟩ := Kd.R_celln (⟨#[]⟩ : ByteArray) HO_5.out (x12_1 : Int) p14 q14; replace p14 := eq_true p14; replace q14 := eq_true q14; obtain ⟨hy16_, hz16_⟩ := Kd.R_celln (⟨#[]⟩ : ByteArray) HO_5.out (x12_1 : Int) (of_decide_eq_true (by first | (with_reducible assumption) | assumption)) (of_decide_eq_true (by first | (with_reducible assumption) | assumption)); have HP16 := Kd.R_putg HO_5.out (x12_1 : Int) t104) | ((with_reducible refine gate_store (t := 9) (p := 20) rfl ?_); refine store_event (t := 9) (p := 20) (v := ?vo_w17) (w1 := (w15.setCell ⟨go14, (x12_1 : Int).toNat, none⟩ (.string t104))) ?hg ?ho ?hn ?hr ?_; (case ho => rfl); (case hg => rfl); (case hn => rfl); (case hr => first | (go_simp; done) | (go_simp; rfl)); intro w17 hw; have hg : w15.grownBy w17 (some go14) := (by rw [hw]; exact HP16.2); have hp_ : Kd.R Kd.string 9 w17 w.heap.size (fun _ => True) (.slice (some ⟨go14, 0, none⟩) x5_1.length co9) y105 := (by rw [hw, Ny105.out]; exact HP16.1); clear HP16; have n0_ := Aside0.mk (hp_); have n1_ := Aside0.mk ((by rw [hw]; exact below_set (HB.out) GB14.out : Below w.heap.size w w17)); clear HO_5; clear HB; have HO_5 := n0_; have HB := n1_; clear n0_ n1_; clear hg hw hp_))
                  (try simp only [← hl5_1])
                  go_roundg k1
                  case measure => have := HK1.out; omega
                  case rel => exact ⟨(y105), (wrap64 (x12_1 + 1)), (by first | rfl | (simp; done) | (simp [*]; done)), H', ⟨by have := HK1.out; omega⟩, ⟨by (try simp only [hl5_1]); (with_reducible repeat (first | apply Kd.R_alloc | apply Kd.R_drewN | apply Kd.R_drew)); exact HO_5.out⟩, ⟨by repeat (first | (with_reducible first | exact HB.out | apply below_alloc | apply pw_below_drewN | apply below_drew1) | exact HB.out)⟩⟩
                · rw [if_neg c13] at H
                  exact absurd H (by simp)
              · rw [if_neg c12] at H
                exact absurd H (by simp)
            · rw [if_neg c10] at H
              have c10b0 : decide (x12_1 < (y101.length : Int)) = false := decide_eq_false c10
              have c10x : decide (x12_1 < (x5_1.length : Int)) = false := by rw [← hl5_1]; exact c10b0
              clear c10
              obtain rfl := Option.some.inj H
              go_wp2
              go_ret
              exact ⟨_, by first | rfl | (simp [errW_none, errW_some] <;> rfl) | (simp only [← hji4]; first | rfl | (simp [errW_none, errW_some] <;> rfl)) | (simp [*, errW_none, errW_some] <;> rfl), by (with_reducible repeat (first | apply Kd.R_alloc | apply Kd.R_drewN | apply Kd.R_drew)); exact HO_5.out, by repeat (first | (with_reducible first | exact HB.out | apply below_alloc | apply pw_below_drewN | apply below_drew1) | exact HB.out)⟩
      · rw [if_neg c6] at H
        exact absurd H (by simp)
    · rw [if_neg c5] at H
      exact absurd H (by simp)
  · rw [if_neg c3] at H
    exact absurd H (by simp)
mutual
def seal_Public.j0 : Nat → ByteArray → Int → Bool → Option (ByteArray × Int)
  | 0, _, _, _ => none
  | k + 1, x0, x1, x12 => if x12 = true then (some ((⟨#[]⟩ : ByteArray), 1)) else ((seal_keys.f k x0 x1).bind fun t106 => (seal_Public.l0 k t106))
def seal_Public.l0 : Nat → List ByteArray → Option (ByteArray × Int)
  | 0, _ => none
  | k + 1, x6 => if (x6.length : Int) > 1 then ((seal_above.f x6).bind fun t109 => (seal_Public.l0 k t109)) else (if 0 < (x6.length : Int) then (some (rdOf ByteArray.empty x6 0, 0)) else (none))
end
def seal_Public.f (k : Nat) (a0 : ByteArray) (a1 : Int) : Option (ByteArray × Int) := if a1 < 0 then (seal_Public.j0 k a0 a1 true) else (seal_Public.j0 k a0 a1 (decide (a1 > 8)))
set_option maxHeartbeats 8000000 in
set_option maxRecDepth 100000 in
theorem seal_Public.calls (k : Nat) (a0 : ByteArray) (a1 : Int) (r1 : ByteArray) (r2 : Int) (w : World) (h : seal_Public.f k a0 a1 = some (r1, r2)) (hG : Glob w) :
    Calls Tryd.prog 28 #[.string a0, .int .i64 a1] w fun e w' => e = .returned (.tuple #[.string r1, .int .i64 r2]) ∧ Below w.heap.size w w' := by
  have HG_ := Aside0.mk hG
  clear hG
  have HB := Aside0.mk (Below.refl w.heap.size w)
  have H : (if a1 < 0 then (seal_Public.j0 k a0 a1 true) else (seal_Public.j0 k a0 a1 (decide (a1 > 8)))) = some (r1, r2) := h
  clear h
  have HC3 := Aside0.mk H
  clear H
  go_enter Tryd.func28, Tryd.ntmps28
  go_upto_region 1 with (fail)
  go_cut [12] (fun v12 wc => ∃ (kq : Nat) (x12_2 : Bool), v12 = .bool x12_2 ∧ Aside0 (seal_Public.j0 kq a0 a1 x12_2 = some (r1, r2)) ∧ Aside0 (kq ≤ k) ∧ Aside0 (Below w.heap.size w wc))
  case first =>
    have H := HC3.out
    clear HC3
    by_cases c4 : a1 < 0
    · rw [if_pos c4] at H
      have c4b0 : decide (a1 < 0) = true := decide_eq_true c4
      clear c4
      (first | rw [c4b0] | (simp only [i64_w, i32_w]; rw [c4b0]) | skip)
      have H' := Aside0.mk H
      clear H
      go_wp2
      go_meet
      case rel => exact ⟨_, (true), (by first | rfl | (simp; done) | (simp [*]; done)), H', ⟨by first | omega | exact Nat.le_refl _⟩, ⟨by repeat (first | (with_reducible first | exact HB.out | apply below_alloc | apply pw_below_drewN | apply below_drew1) | exact HB.out)⟩⟩
    · rw [if_neg c4] at H
      have c4b0 : decide (a1 < 0) = false := decide_eq_false c4
      clear c4
      (first | rw [c4b0] | (simp only [i64_w, i32_w]; rw [c4b0]) | skip)
      have H' := Aside0.mk H
      clear H
      go_wp2
      go_meet
      case rel => exact ⟨_, (decide (a1 > 8)), (by first | rfl | (simp; done) | (simp [*]; done)), H', ⟨by first | omega | exact Nat.le_refl _⟩, ⟨by repeat (first | (with_reducible first | exact HB.out | apply below_alloc | apply pw_below_drewN | apply below_drew1) | exact HB.out)⟩⟩
  case rest =>
    clear HC3
    try clear c2
    try clear p2
    try clear c4
    try clear c4b0
    obtain ⟨kq, x12_2, rfl, HA, HJ2, HB⟩ := hcut
    cases kq with
    | zero => exact absurd HA.out (by simp [seal_Public.j0])
    | succ kj2 =>
      have H := HA.out
      clear HA
      simp only [seal_Public.j0] at H
      by_cases c5 : x12_2 = true
      · subst c5
        have H1 : (some ((⟨#[]⟩ : ByteArray), 1)) = some (r1, r2) := by rw [if_pos rfl] at H; exact H
        clear H
        have H := H1
        clear H1
        simp only [Option.some.injEq, Prod.mk.injEq] at H
        obtain ⟨rfl, rfl⟩ := H
        go_wp2
        go_ret2
        exact ⟨by first | rfl | (simp [errW_none, errW_some] <;> rfl) | (simp [*, errW_none, errW_some] <;> rfl), by repeat (first | (with_reducible first | exact HB.out | apply below_alloc | apply pw_below_drewN | apply below_drew1) | exact HB.out)⟩
      · replace c5 := Bool.eq_false_iff.mpr c5
        subst c5
        have H1 : ((seal_keys.f kj2 a0 a1).bind fun t106 => (seal_Public.l0 kj2 t106)) = some (r1, r2) := by rw [if_neg (show ¬ (false = true) by decide)] at H; exact H
        clear H
        have H := H1
        clear H1
        replace H := Option.bind_eq_some_iff.mp H
        obtain ⟨t106, A60, H⟩ := H
        replace H : (seal_Public.l0 kj2 t106) = some (r1, r2) := H
        have A6 := Aside0.mk A60
        clear A60
        have H' := Aside0.mk H
        clear H
        go_wp2_with (first | ((with_reducible refine gate_callee (f := 48) rfl ?_); refine goesL_ (some 15) rfl rfl Tryd.func48 (by kernel_rfl) rfl #[.string a0, .int .i64 a1] rfl (by (try simp only [List.map_toArray, List.map_cons, List.map_nil]); first | done | rfl | (simp only [List.length_drop, List.length_take]; rfl)) ?_; (with_reducible refine (seal_keys.calls kj2 a0 a1 t106 _ A6.out (hG := ?hGl)).mono ?_); (case hGl => exact (Glob.below HG_.out (by repeat (first | (with_reducible first | exact HB.out | apply below_alloc | apply pw_below_drewN | apply below_drew1) | exact HB.out)))); rintro e w7 ⟨v107, rfl, ho0, hb⟩; refine ⟨_, rfl, ?_⟩; have n0_ := Aside0.mk (Kd.R_lower ho0 (below_size (by repeat (first | (with_reducible first | exact HB.out | apply below_alloc | apply pw_below_drewN | apply below_drew1) | exact HB.out)))); have n1_ := Aside0.mk (below_step (by repeat (first | (with_reducible first | exact HB.out | apply below_alloc | apply pw_below_drewN | apply below_drew1) | exact HB.out)) hb); clear HB; have HO108 := n0_; have HB := n1_; clear n0_ n1_; (try clear hb); (try clear hb2); (try clear hk); (try clear hi); (try clear ho0)))
        go_loopg [6] kj2 (fun kq v6 w' => ∃ (x6_2 : List ByteArray), Aside0 (seal_Public.l0 kq x6_2 = some (r1, r2)) ∧ Aside0 (kq ≤ kj2) ∧ Aside0 (Kd.R Kd.string 9 w' w.heap.size (fun _ => True) v6 x6_2) ∧ Aside0 (Below w.heap.size w w'))
        case atStart => exact ⟨(t106), H', ⟨Nat.le_refl _⟩, ⟨by (with_reducible repeat (first | apply Kd.R_alloc | apply Kd.R_drewN | apply Kd.R_drew)); exact HO108.out⟩, ⟨by repeat (first | (with_reducible first | exact HB.out | apply below_alloc | apply pw_below_drewN | apply below_drew1) | exact HB.out)⟩⟩
        case round =>
          clear H'
          try clear c2
          try clear p2
          try clear c4
          try clear c4b0
          try clear c5
          try clear p2
          obtain ⟨x6_2, HA, HK2, HO_6, HB⟩ := hrel
          cases gk with
          | zero => exact absurd HA.out (by simp [seal_Public.l0])
          | succ k2 =>
            have H := HA.out
            clear HA
            simp only [seal_Public.l0] at H
            by_cases c8 : (x6_2.length : Int) > 1
            · rw [if_pos c8] at H
              have c8b0 : decide (1 < (x6_2.length : Int)) = true := decide_eq_true c8
              have c8b1 : decide (1 < x6_2.length) = true := decide_eq_true (by omega)
              clear c8
              replace H := Option.bind_eq_some_iff.mp H
              obtain ⟨t109, A90, H⟩ := H
              replace H : (seal_Public.l0 k2 t109) = some (r1, r2) := H
              have A9 := Aside0.mk A90
              clear A90
              have H' := Aside0.mk H
              clear H
              obtain ⟨Ao10, co10, eo10⟩ := Kd.R_slice HO_6.out
              subst eo10
              go_wp2_with (first | ((with_reducible refine gate_callee (f := 49) rfl ?_); refine goesL_ (some 20) rfl rfl Tryd.func49 (by kernel_rfl) rfl #[.slice Ao10 x6_2.length co10] rfl (by (try simp only [List.map_toArray, List.map_cons, List.map_nil]); first | done | rfl | (simp only [List.length_drop, List.length_take]; rfl)) ?_; (with_reducible refine (seal_above.calls _ _ x6_2 t109 _ ?side1 ?side2 A9.out (hG := ?hGl)).mono ?_); clear A9; (case hGl => exact (Glob.below HG_.out (by repeat (first | (with_reducible first | exact HB.out | apply below_alloc | apply pw_below_drewN | apply below_drew1) | exact HB.out)))); (case side1 => repeat (first | exact (Kd.R_reads' HO_6.out).2.2 | (with_reducible refine Kd.C_alloc ?_ _) | (with_reducible refine Kd.C_drewN ?_ _) | (with_reducible refine Kd.C_drew ?_))); (case side2 => exact (Kd.R_reads' HO_6.out).2.1); rintro e w11 ⟨v110, rfl, ho0, hb⟩; refine ⟨_, rfl, ?_⟩; have n0_ := Aside0.mk (Kd.R_elder' (by (with_reducible repeat (first | apply Kd.R_alloc | apply Kd.R_drewN | apply Kd.R_drew)); exact HO_6.out) (Kd.R_base ho0) hb); have n1_ := Aside0.mk (Kd.R_lower (Kd.R_new' ho0 (Kd.R_lt (by (with_reducible repeat (first | apply Kd.R_alloc | apply Kd.R_drewN | apply Kd.R_drew)); exact HO_6.out))) (below_size (by repeat (first | (with_reducible first | exact HB.out | apply below_alloc | apply pw_below_drewN | apply below_drew1) | exact HB.out)))); have n2_ := Aside0.mk (below_step (by repeat (first | (with_reducible first | exact HB.out | apply below_alloc | apply pw_below_drewN | apply below_drew1) | exact HB.out)) hb); clear HO_6; clear HB; have HO_6 := n0_; have HO111 := n1_; have HB := n2_; clear n0_ n1_ n2_; (try clear hb); (try clear hb2); (try clear hk); (try clear hi); (try clear ho0)))
              go_roundg k2
              case measure => have := HJ2.out; have := HK2.out; omega
              case rel => exact ⟨(t109), H', ⟨by have := HJ2.out; have := HK2.out; omega⟩, ⟨by (with_reducible repeat (first | apply Kd.R_alloc | apply Kd.R_drewN | apply Kd.R_drew)); exact Kd.R_mono HO111.out (fun _ hk => trivial)⟩, ⟨by repeat (first | (with_reducible first | exact HB.out | apply below_alloc | apply pw_below_drewN | apply below_drew1) | exact HB.out)⟩⟩
            · rw [if_neg c8] at H
              have c8b0 : decide (1 < (x6_2.length : Int)) = false := decide_eq_false c8
              have c8b1 : decide (1 < x6_2.length) = false := decide_eq_false (by omega)
              clear c8
              by_cases c12 : 0 < (x6_2.length : Int)
              · rw [if_pos c12] at H
                have c12b0 : decide (0 < (x6_2.length : Int)) = true := decide_eq_true c12
                have c12b1 : decide (0 < x6_2.length) = true := decide_eq_true (by omega)
                clear c12
                simp only [Option.some.injEq, Prod.mk.injEq] at H
                obtain ⟨rfl, rfl⟩ := H
                obtain ⟨Ao13, co13, eo13⟩ := Kd.R_slice HO_6.out
                subst eo13
                have p112 : 0 ≤ (0 : Int) := (by omega)
                have q112 : 0 < (x6_2.length : Int) := of_decide_eq_true (by first | (with_reducible assumption) | assumption)
                obtain ⟨ad112, e112, hx112_0⟩ := Kd.at_string (Kd.R_reads' HO_6.out).2.2 0 p112 q112
                cases e112
                have qi112 : (0 < x6_2.length) = True := eq_true (by omega)
                (try rw [show ((0 : Int)).toNat = 0 from rfl] at hx112_0)
                (try rw [Addr.add_zero'] at hx112_0)
                replace p112 := eq_true p112
                replace q112 := eq_true q112
                go_wp2
                go_ret2
                exact ⟨by first | rfl | (simp [errW_none, errW_some] <;> rfl) | (simp [*, errW_none, errW_some] <;> rfl), by repeat (first | (with_reducible first | exact HB.out | apply below_alloc | apply pw_below_drewN | apply below_drew1) | exact HB.out)⟩
              · rw [if_neg c12] at H
                exact absurd H (by simp)
end Go.Proofs.YteleheamnighkaaDoor.PCg
end
section
set_option linter.unusedVariables false
set_option linter.unusedSimpArgs false
namespace Go.Proofs.YteleheamnighkaaDoor
open Go.RowKit Go.DoorKit Go.Proofs.YteleheamnighkaaDoorW.PrintWords Go.Proofs.YteleheamnighkaaDoorW.PrintLast Go.Proofs.YteleheamnighkaaDoorW.PrintMore
def lvl (s : Dig.Txt) (n j : Nat) : List ByteArray := (List.range n).map fun m => ofT (Dig.tree s j m)
theorem lvl_len (s : Dig.Txt) (n j : Nat) : (lvl s n j).length = n := by simp [lvl]
theorem lvl_succ (s : Dig.Txt) (n j : Nat) : lvl s (n + 1) j = lvl s n j ++ [ofT (Dig.tree s j n)] := by unfold lvl; rw [List.range_succ, List.map_append]; rfl
theorem tree_len (s : Dig.Txt) : ∀ j m, (Dig.tree s j m).length = 16
  | 0, _ => Dig.sum_len _
  | _ + 1, _ => Dig.sum_len _
theorem lvl_size (s : Dig.Txt) (n j : Nat) : ∀ x ∈ lvl s n j, x.size = 16 := by
  intro x hx
  simp only [lvl, List.mem_map] at hx
  obtain ⟨m, _, rfl⟩ := hx
  rw [size_ofT, tree_len]
theorem lvl_get (s : Dig.Txt) (n j i : Nat) (h : i < n) : (lvl s n j).getD i ByteArray.empty = ofT (Dig.tree s j i) := by
  rw [List.getD_eq_getElem?_getD, List.getElem?_eq_getElem (by rw [lvl_len]; exact h)]
  simp [lvl]
theorem upL_append : ∀ (l m : List ByteArray), l.length % 2 = 0 → upL (l ++ m) = upL l ++ upL m
  | [], m, _ => rfl
  | [_], m, h => by simp at h
  | a :: b :: l, m, h => by
    rw [List.cons_append, List.cons_append, upL, upL, upL_append l m (by simp only [List.length_cons] at h; omega)]; rfl
theorem upL_lvl (s : Dig.Txt) (j : Nat) : ∀ n, upL (lvl s (2 * n) j) = lvl s n (j + 1)
  | 0 => rfl
  | n + 1 => by
    rw [show 2 * (n + 1) = 2 * n + 1 + 1 by omega, lvl_succ, lvl_succ, List.append_assoc, upL_append _ _ (by rw [lvl_len]; omega), upL_lvl s j n, lvl_succ]
    rfl
theorem set_replicate (l : List ByteArray) (m : Nat) (x : ByteArray) : (l ++ List.replicate (m + 1) (⟨#[]⟩ : ByteArray)).set l.length x = (l ++ [x]) ++ List.replicate m (⟨#[]⟩ : ByteArray) := by
  rw [List.set_append_right _ _ (Nat.le_refl _), Nat.sub_self, List.replicate_succ, List.set_cons_zero, List.append_assoc]; rfl
theorem sKey (a0 : ByteArray) (i : Nat) (h : a0.size ≤ 10000) (hi : i ≤ 100000) : seal_key.f a0 i = some (ofT (Dig.tree (tx a0) 0 i)) := by
  unfold seal_key.f; rw [if_pos ⟨h, ⟨by omega, by omega⟩⟩, Int.toNat_natCast]
theorem keys_l0 (a0 : ByteArray) (hs : a0.size ≤ 10000) (n : Nat) (hn : n ≤ 1000) : ∀ (d i e : Nat), i + d = n →
    PCg.seal_keys.l0 (d + e + 1) a0 (lvl (tx a0) i 0 ++ List.replicate d (⟨#[]⟩ : ByteArray)) n i = some (lvl (tx a0) n 0)
  | 0, i, e, h => by
    obtain rfl : i = n := by omega
    rw [PCg.seal_keys.l0, if_neg (by omega)]; simp
  | d + 1, i, e, h => by
    have hl : ((lvl (tx a0) i 0 ++ List.replicate (d + 1) (⟨#[]⟩ : ByteArray)).length : Int) = (n : Int) := by
      rw [List.length_append, lvl_len, List.length_replicate]; omega
    rw [show d + 1 + e + 1 = (d + e + 1) + 1 by omega, PCg.seal_keys.l0, if_pos (by omega), sKey a0 i hs (by omega), Option.bind_some, if_pos (by omega), if_pos (by omega), wrap_succ i (by omega), Int.toNat_natCast]
    have e1 : (lvl (tx a0) i 0 ++ List.replicate (d + 1) (⟨#[]⟩ : ByteArray)).set i (ofT (Dig.tree (tx a0) 0 i)) = lvl (tx a0) (i + 1) 0 ++ List.replicate d (⟨#[]⟩ : ByteArray) := by
      have := set_replicate (lvl (tx a0) i 0) d (ofT (Dig.tree (tx a0) 0 i))
      rw [lvl_len] at this
      rw [this, lvl_succ]
    rw [e1]
    exact keys_l0 a0 hs n hn d (i + 1) e (by omega)
theorem shl_one (h : Nat) (hh : h ≤ 20) : shl .i64 1 (h : Int) = ((2 ^ h : Nat) : Int) := by
  have hp : 2 ^ h ≤ 2 ^ 20 := Nat.pow_le_pow_right (by decide) hh
  unfold shl
  have e : min (h : Int).toNat IntKind.i64.bits = h := by rw [Int.toNat_natCast]; exact Nat.min_eq_left (Nat.le_trans hh (by decide))
  rw [e, Int.one_mul]
  have e2 : (2 : Int) ^ h = ((2 ^ h : Nat) : Int) := by simp
  rw [e2]
  generalize 2 ^ h = P at *
  exact IntWalk.i64_in _ (by omega)
theorem pow_le {h m : Nat} (hh : h ≤ m) : 2 ^ h ≤ 2 ^ m := Nat.pow_le_pow_right (by decide) hh
theorem keys_f (a0 : ByteArray) (h m : Nat) (hs : a0.size ≤ 10000) (hh : h ≤ 9) : PCg.seal_keys.f (2 ^ h + m + 1) a0 h = some (lvl (tx a0) (2 ^ h) 0) := by
  have hp : 2 ^ h ≤ 512 := pow_le hh
  have e := shl_one h (by omega)
  unfold PCg.seal_keys.f
  generalize 2 ^ h = Q at *
  rw [e, Int.toNat_natCast, if_pos (by omega), if_pos (by omega), if_pos (by omega), Option.bind_some, List.length_replicate]
  exact keys_l0 a0 hs Q (by omega) Q 0 m (by omega)
theorem keys_calls (a0 : ByteArray) (h : Nat) (w : World) (hs : a0.size ≤ 10000) (hh : h ≤ 9) (hG : Glob w) :
    Calls Tryd.prog 48 #[.string a0, .int .i64 h] w fun e w' => ∃ v0_ : Value, e = .returned (v0_) ∧ Kd.R Kd.string 9 w' w.heap.size (fun _ => True) v0_ (lvl (tx a0) (2 ^ h) 0) ∧ Below w.heap.size w w' :=
  PCg.seal_keys.calls _ a0 h _ w (keys_f a0 h 0 hs hh) hG
end Go.Proofs.YteleheamnighkaaDoor
end
section
set_option linter.unusedVariables false
set_option linter.unusedSimpArgs false
namespace Go.Proofs.YteleheamnighkaaDoor
open Go.RowKit Go.Shelf Go.DoorKit Go.DoorRound Go.Proofs.YteleheamnighkaaDoorW.PrintWords Go.Proofs.YteleheamnighkaaDoorW.PrintLast Go.Proofs.YteleheamnighkaaDoorW.PrintMore
attribute [local go_sem] Oper.semAt_some
def sigAt (s : Dig.Txt) (i : Nat) (m : Dig.Txt) (j : Nat) : ByteArray := ofT (Dig.chain (Dig.start0 s i j) (dAt m j))
theorem sib_lt {x n : Nat} (h : x < 2 * n) : Dig.sib x < 2 * n := by unfold Dig.sib; split <;> omega
theorem xor_sib (x : Nat) (h : x < 256) : bits .xor .i64 (x : Int) 1 = ((Dig.sib x : Nat) : Int) := by
  have : ∀ n : Fin 256, bits .xor .i64 (n.val : Int) 1 = ((Dig.sib n.val : Nat) : Int) := by decide +kernel
  exact this ⟨x, h⟩
def pathL (s : Dig.Txt) (i h : Nat) : List ByteArray := (List.range h).map fun j => ofT (Dig.tree s j (Dig.sib (i / 2 ^ j)))
theorem pathL_len (s : Dig.Txt) (i h : Nat) : (pathL s i h).length = h := by simp [pathL]
def sigL (s : Dig.Txt) (i : Nat) (m : Dig.Txt) : List ByteArray := (List.finRange 18).map fun j => sigAt s i m j.val
theorem sigL_len (s : Dig.Txt) (i : Nat) (m : Dig.Txt) : (sigL s i m).length = 18 := by simp [sigL]
def NoPanic (Q : Exit → Act → World → Prop) : Exit → Act → World → Prop
  | .panic _, _, _ => False
  | e, a, w => Q e a w
theorem noPanic_le (Q : Exit → Act → World → Prop) : ∀ e a w, NoPanic Q e a w → Q e a w := fun e a w h => by cases e <;> first | exact h | exact h.elim
def SignsTo (a0 : ByteArray) (hgt idx : Nat) (msg : ByteArray) (w : World) (e : Ending) (w' : World) : Prop :=
  ∃ v1_ v2_ : Value, e = .returned (.tuple #[.agg #[.int .i64 idx, v1_, v2_], .int .i64 0]) ∧ Kd.R Kd.string 9 w' w.heap.size (fun k_ => some k_ ≠ (v2_ : Value).ownBlock) v1_ (sigL (tx a0) idx (tx msg)) ∧
    Kd.R Kd.string 9 w' w.heap.size (fun k_ => some k_ ≠ (v1_ : Value).ownBlock) v2_ (pathL (tx a0) idx hgt) ∧ Below w.heap.size w w'
theorem above_lvl (s : Dig.Txt) (al : Addr) (Ac n m j : Nat) (W : World) {N0 : Nat} {ok : Nat → Prop} (h : Kd.R Kd.string 9 W N0 ok (.slice (some al) n Ac) (lvl s n j)) (hn : n = 2 * m) (h0 : 0 < m) (hm : m ≤ 400) (hG : Glob W) :
    Calls Tryd.prog 49 #[.slice (some al) n Ac] W fun e w' => ∃ v0_ : Value, e = .returned v0_ ∧ Kd.R Kd.string 9 w' W.heap.size (fun _ => True) v0_ (lvl s m (j + 1)) ∧ Below W.heap.size W w' := by
  obtain ⟨_, hc, hC⟩ := Kd.R_reads' h
  have hl := lvl_len s n j
  have := seal_above.calls (some al) Ac (lvl s n j) (lvl s m (j + 1)) W hC (by omega) ?_ hG
  · rw [hl] at this; exact this
  · unfold seal_above.f
    rw [if_pos, hn, upL_lvl]
    refine ⟨⟨by omega, fun x hx => by rw [lvl_size s n j x hx]; decide⟩, by omega, by omega⟩
def SignLoop (a0 : ByteArray) (hgt idx : Nat) (msg : ByteArray) (w : World) (D N0 N1 : Nat) (v l i : Value) (W : World) : Prop :=
  ∃ (j : Nat) (u : Value), j ≤ hgt ∧ i = .int .i64 ((idx / 2 ^ j : Nat) : Int) ∧ Kd.R Kd.string 9 W N0 (fun k => N0 ≤ k ∧ some k ≠ u.ownBlock) l (lvl (tx a0) (2 ^ (hgt - j)) j) ∧
    Kd.R Kd.string 9 W N1 (fun k => N1 ≤ k) u (pathL (tx a0) idx j) ∧ W.heap[w.heap.size + 1 + 1 + 1]? = some (.cells #[.int .i64 idx, v, u] 35 (0, 0)) ∧
    W.heap[w.heap.size + 1 + 1]? = some (.cells #[.int .i64 0, .slice none 0 0, .slice none 0 0] 35 (0, 0)) ∧ W.heap[D]? = some (.deferred (some [])) ∧
    Kd.R Kd.string 9 W N0 (fun k => N0 ≤ k ∧ k < N1) v (sigL (tx a0) idx (tx msg)) ∧ Below w.heap.size w W ∧ N1 ≤ W.heap.size
def lenV : Value → Nat
  | .slice _ n _ => n
  | _ => 0
theorem dAt_le (m : Dig.Txt) (j : Nat) : dAt m j ≤ 15 := by
  have hl : ∀ x ∈ (Dig.sum m).map Dig.hexv, x ≤ 15 := by
    intro x hx
    obtain ⟨c, hc, rfl⟩ := List.mem_map.1 hx
    exact (hex_char c (Pure.sum_hex _ c hc)).2.2
  have hr := rest_le ((Dig.sum m).map Dig.hexv)
  have hlen : ((Dig.sum m).map Dig.hexv).length = 16 := by rw [List.length_map, Dig.sum_len]
  unfold dAt Dig.digits
  generalize (Dig.sum m).map Dig.hexv = L at *
  dsimp only
  generalize Dig.restOf L = R at *
  rw [hlen] at hr
  rw [List.getD_eq_getElem?_getD]
  have hall : ∀ x ∈ L ++ [R / 16, R % 16], x ≤ 15 := by
    intro x hx
    rcases List.mem_append.1 hx with h | h
    · exact hl x h
    · simp only [List.mem_cons, List.not_mem_nil, or_false] at h
      omega
  cases h : (L ++ [R / 16, R % 16])[j]? with
  | none => exact Nat.zero_le _
  | some x => exact hall x (List.mem_of_getElem? h)
theorem grownBy_setCellI (W : World) (b i : Nat) (v : Value) : W.grownBy (W.setCell ⟨b, i, none⟩ v) (some b) :=
  ⟨rfl, rfl, rfl, (KeepsWalks.setCell W _ v).size, fun k _ hk => Below.heap_setCell _ _ _ k (fun e => hk (by rw [e]))⟩
theorem blk_own {β : Type} (B g : Nat) (cs : Array Value) (t : TypeId) : OwnFrom B (fun (_ : β) W => W.heap[g]? = some (.cells cs t (0, 0))) := by
  intro s X Y row hs hg hrow
  exact (grownBy_keeps_cells hg (fun r e => (hrow r e).2) hs rfl).trans hs
theorem row_ne {W : World} {base k : Nat} {e : TypeId} {size n : Nat} {v : Value} {xs : List Value} (h : W.ownsRow base e size v n xs) (hk : k < base) : some k ≠ v.ownBlock := by
  rcases h.2 with ⟨rfl, _⟩ | ⟨g, cap, cur, rfl, hb, _⟩
  · simp [Value.ownBlock]
  · intro e
    obtain rfl : k = g := by simpa [Value.ownBlock] using e
    omega
theorem blkRow_own (g base B : Nat) (a0 msg : ByteArray) (idx : Nat) : OwnFrom B (fun (pre : List (Fin 18)) W => ∃ v, W.heap[g]? = some (.cells #[.int .i64 idx, v, .slice none 0 0] 35 (0, 0)) ∧
    W.ownsRow base 9 1 v pre.length (pre.map fun j => Value.string (sigAt (tx a0) idx (tx msg) j.val))) := by
  rintro s X Y row ⟨v, hv, hr⟩ hg hrow
  refine ⟨v, (grownBy_keeps_cells hg (fun r e => (hrow r e).2) hv rfl).trans hv, hr.kept hg ?_⟩
  rcases hr.2 with ⟨rfl, _⟩ | ⟨g, cap, cur, rfl, _, hgb, _⟩
  · exact .inl rfl
  · refine .inr fun e' => ?_
    obtain ⟨_, o, ho, hc⟩ := hrow g (by simpa [Value.ownBlock] using e'.symm)
    rw [hgb] at ho; cases ho; cases hc
theorem sign_start (a0 msg : ByteArray) (idx nq : Nat) (w W0 : World)
    (h : (((((((((w.alloc (.cells #[.string a0] 9)).alloc (.cells #[.int .i64 idx] 3)).alloc (.cells #[.int .i64 0, .slice none 0 0, .slice none 0 0] 35)).alloc (.cells #[.int .i64 0, .slice none 0 0, .slice none 0 0] 35)).drewN nq).setCell ⟨w.heap.size + 1 + 1 + 1, 0, none⟩ (.int .i64 idx)).setCell ⟨w.heap.size + 1 + 1 + 1, 1, none⟩ (.slice none 0 0)).setCell ⟨w.heap.size + 1 + 1 + 1, 2, none⟩ (.slice none 0 0)).alloc (.cells #[.string msg] 9)) = W0) :
    W0.heap.size = w.heap.size + 5 ∧ Boxed W0 w.heap.size 9 (.string a0) ∧ Boxed W0 (w.heap.size + 1) 3 (.int .i64 idx) ∧ W0.heap[w.heap.size + 1 + 1]? = some (.cells #[.int .i64 0, .slice none 0 0, .slice none 0 0] 35 (0, 0)) ∧
      W0.heap[w.heap.size + 1 + 1 + 1]? = some (.cells #[.int .i64 idx, .slice none 0 0, .slice none 0 0] 35 (0, 0)) ∧ W0.cell? ⟨w.heap.size + 1 + 1 + 1 + 1, 0, none⟩ = some (.string msg) ∧ Below w.heap.size w W0 := by
  have k1 := blk_new w (.cells #[.string a0] 9)
  have b1 := below_alloc (Below.refl w.heap.size w) (.cells #[.string a0] 9)
  generalize hw1 : w.alloc (.cells #[.string a0] 9) = w1 at *
  have s1 : w1.heap.size = w.heap.size + 1 := by rw [← hw1]; simp
  have k2 := blk_new w1 (.cells #[.int .i64 idx] 3)
  have b2 := below_alloc b1 (.cells #[.int .i64 idx] 3)
  replace k1 := blk_alloc k1 (.cells #[.int .i64 idx] 3)
  rw [s1] at k2
  generalize hw2 : w1.alloc (.cells #[.int .i64 idx] 3) = w2 at *
  have s2 : w2.heap.size = w.heap.size + 1 + 1 := by rw [← hw2]; simp [s1]
  have k3 := blk_new w2 (.cells #[.int .i64 0, .slice none 0 0, .slice none 0 0] 35)
  have b3 := below_alloc b2 (.cells #[.int .i64 0, .slice none 0 0, .slice none 0 0] 35)
  replace k1 := blk_alloc k1 (.cells #[.int .i64 0, .slice none 0 0, .slice none 0 0] 35)
  replace k2 := blk_alloc k2 (.cells #[.int .i64 0, .slice none 0 0, .slice none 0 0] 35)
  rw [s2] at k3
  generalize hw3 : w2.alloc (.cells #[.int .i64 0, .slice none 0 0, .slice none 0 0] 35) = w3 at *
  have s3 : w3.heap.size = w.heap.size + 1 + 1 + 1 := by rw [← hw3]; simp [s2]
  have k4 := blk_new w3 (.cells #[.int .i64 0, .slice none 0 0, .slice none 0 0] 35)
  have b4 := below_alloc b3 (.cells #[.int .i64 0, .slice none 0 0, .slice none 0 0] 35)
  replace k1 := blk_alloc k1 (.cells #[.int .i64 0, .slice none 0 0, .slice none 0 0] 35)
  replace k2 := blk_alloc k2 (.cells #[.int .i64 0, .slice none 0 0, .slice none 0 0] 35)
  replace k3 := blk_alloc k3 (.cells #[.int .i64 0, .slice none 0 0, .slice none 0 0] 35)
  rw [s3] at k4
  generalize hw4 : w3.alloc (.cells #[.int .i64 0, .slice none 0 0, .slice none 0 0] 35) = w4 at *
  have s4 : w4.heap.size = w.heap.size + 1 + 1 + 1 + 1 := by rw [← hw4]; simp [s3]
  replace b4 := pw_below_drewN b4 nq
  replace k1 := blk_drewN k1 nq
  replace k2 := blk_drewN k2 nq
  replace k3 := blk_drewN k3 nq
  replace k4 := blk_drewN k4 nq
  have s5 : (w4.drewN nq).heap.size = w.heap.size + 1 + 1 + 1 + 1 := s4
  generalize w4.drewN nq = w5 at *
  obtain ⟨w6, hw6⟩ : ∃ w6, w5.setCell ⟨w.heap.size + 1 + 1 + 1, 0, none⟩ (.int .i64 idx) = w6 := ⟨_, rfl⟩
  have j1 := blk_far k1 (p := ⟨w.heap.size + 1 + 1 + 1, 0, none⟩) (by show w.heap.size ≠ w.heap.size + 1 + 1 + 1; omega) (.int .i64 idx)
  have j2 := blk_far k2 (p := ⟨w.heap.size + 1 + 1 + 1, 0, none⟩) (by show w.heap.size + 1 ≠ w.heap.size + 1 + 1 + 1; omega) (.int .i64 idx)
  have j3 := blk_far k3 (p := ⟨w.heap.size + 1 + 1 + 1, 0, none⟩) (by show w.heap.size + 1 + 1 ≠ w.heap.size + 1 + 1 + 1; omega) (.int .i64 idx)
  have j4 := blk_put (cs' := #[.int .i64 idx, .slice none 0 0, .slice none 0 0]) k4 0 (.int .i64 idx) rfl
  have b5 := b4.setCell (p := ⟨w.heap.size + 1 + 1 + 1, 0, none⟩) (by show w.heap.size ≤ w.heap.size + 1 + 1 + 1; omega) (.int .i64 idx)
  have s6 : (w5.setCell ⟨w.heap.size + 1 + 1 + 1, 0, none⟩ (.int .i64 idx)).heap.size = w.heap.size + 1 + 1 + 1 + 1 := by simp [World.setCell, s5]
  generalize w5.setCell ⟨w.heap.size + 1 + 1 + 1, 0, none⟩ (.int .i64 idx) = w6 at *
  replace j1 := blk_far j1 (p := ⟨w.heap.size + 1 + 1 + 1, 1, none⟩) (by show w.heap.size ≠ w.heap.size + 1 + 1 + 1; omega) (.slice none 0 0)
  replace j2 := blk_far j2 (p := ⟨w.heap.size + 1 + 1 + 1, 1, none⟩) (by show w.heap.size + 1 ≠ w.heap.size + 1 + 1 + 1; omega) (.slice none 0 0)
  replace j3 := blk_far j3 (p := ⟨w.heap.size + 1 + 1 + 1, 1, none⟩) (by show w.heap.size + 1 + 1 ≠ w.heap.size + 1 + 1 + 1; omega) (.slice none 0 0)
  replace j4 := blk_put (cs' := #[.int .i64 idx, .slice none 0 0, .slice none 0 0]) j4 1 (.slice none 0 0) rfl
  replace b5 := b5.setCell (p := ⟨w.heap.size + 1 + 1 + 1, 1, none⟩) (by show w.heap.size ≤ w.heap.size + 1 + 1 + 1; omega) (.slice none 0 0)
  have s7 : (w6.setCell ⟨w.heap.size + 1 + 1 + 1, 1, none⟩ (.slice none 0 0)).heap.size = w.heap.size + 1 + 1 + 1 + 1 := by simp [World.setCell, s6]
  generalize w6.setCell ⟨w.heap.size + 1 + 1 + 1, 1, none⟩ (.slice none 0 0) = w7 at *
  replace j1 := blk_far j1 (p := ⟨w.heap.size + 1 + 1 + 1, 2, none⟩) (by show w.heap.size ≠ w.heap.size + 1 + 1 + 1; omega) (.slice none 0 0)
  replace j2 := blk_far j2 (p := ⟨w.heap.size + 1 + 1 + 1, 2, none⟩) (by show w.heap.size + 1 ≠ w.heap.size + 1 + 1 + 1; omega) (.slice none 0 0)
  replace j3 := blk_far j3 (p := ⟨w.heap.size + 1 + 1 + 1, 2, none⟩) (by show w.heap.size + 1 + 1 ≠ w.heap.size + 1 + 1 + 1; omega) (.slice none 0 0)
  replace j4 := blk_put (cs' := #[.int .i64 idx, .slice none 0 0, .slice none 0 0]) j4 2 (.slice none 0 0) rfl
  replace b5 := b5.setCell (p := ⟨w.heap.size + 1 + 1 + 1, 2, none⟩) (by show w.heap.size ≤ w.heap.size + 1 + 1 + 1; omega) (.slice none 0 0)
  have s8 : (w7.setCell ⟨w.heap.size + 1 + 1 + 1, 2, none⟩ (.slice none 0 0)).heap.size = w.heap.size + 1 + 1 + 1 + 1 := by simp [World.setCell, s7]
  generalize w7.setCell ⟨w.heap.size + 1 + 1 + 1, 2, none⟩ (.slice none 0 0) = w8 at *
  subst h
  have k5 := blk_new w8 (.cells #[.string msg] 9)
  rw [s8] at k5
  exact ⟨by simp [s8], blk_alloc j1 _, blk_alloc j2 _, blk_alloc j3 _, blk_alloc j4 _, (blk_cell k5 0).trans rfl, below_alloc b5 _⟩
theorem sign_end {a0 : ByteArray} {hgt idx : Nat} {msg : ByteArray} {w wr : World} {D N0 N1 gR : Nat} {Au Av : Option Addr} {Acu Acv : Nat} {tm : Array Value} (t9 : tm.getD 9 undef = .int .i64 0) (t8 : tm.getD 8 undef = .pointer (some ⟨gR, 0, none⟩))
    (h0 : w.heap.size ≤ gR) (h1 : gR < N0) (h2 : N0 ≤ N1) (h3 : N0 ≤ D)
    (hU : Kd.R Kd.string 9 wr N1 (fun k => N1 ≤ k) (.slice Au (pathL (tx a0) idx hgt).length Acu) (pathL (tx a0) idx hgt))
    (hV : Kd.R Kd.string 9 wr N0 (fun k => N0 ≤ k ∧ k < N1) (.slice Av (sigL (tx a0) idx (tx msg)).length Acv) (sigL (tx a0) idx (tx msg)))
    (gR0 : wr.heap[gR]? = some (.cells #[.int .i64 0, .slice none 0 0, .slice none 0 0] 35 (0, 0))) (gD : wr.heap[D]? = some (.deferred (some []))) (hB : Below w.heap.size w wr) :
    NoPanic (bodyPostM Fence.wide 5 Tryd.prog Tryd.f30 (SignsTo a0 hgt idx msg w)) .ret { tmps := tm, defers := [{ target := .collected D, args := #[] }] }
      (((wr.setCell ⟨gR, 0, none⟩ (.int .i64 idx)).setCell ⟨gR, 1, none⟩ (.slice Av (sigL (tx a0) idx (tx msg)).length Acv)).setCell ⟨gR, 2, none⟩ (.slice Au (pathL (tx a0) idx hgt).length Acu)) := by
  have u1 := Kd.R_far (Kd.R_far (Kd.R_far hU (p := ⟨gR, 0, none⟩) (fun k hk e => by have e' : k = gR := e; omega) (.int .i64 idx)) (p := ⟨gR, 1, none⟩) (fun k hk e => by have e' : k = gR := e; omega) (.slice Av (sigL (tx a0) idx (tx msg)).length Acv)) (p := ⟨gR, 2, none⟩) (fun k hk e => by have e' : k = gR := e; omega) (.slice Au (pathL (tx a0) idx hgt).length Acu)
  have v1 := Kd.R_far (Kd.R_far (Kd.R_far hV (p := ⟨gR, 0, none⟩) (fun k hk e => by have e' : k = gR := e; have := hk.1; omega) (.int .i64 idx)) (p := ⟨gR, 1, none⟩) (fun k hk e => by have e' : k = gR := e; have := hk.1; omega) (.slice Av (sigL (tx a0) idx (tx msg)).length Acv)) (p := ⟨gR, 2, none⟩) (fun k hk e => by have e' : k = gR := e; have := hk.1; omega) (.slice Au (pathL (tx a0) idx hgt).length Acu)
  have r1 := blk_put (cs' := #[.int .i64 idx, .slice Av (sigL (tx a0) idx (tx msg)).length Acv, .slice Au (pathL (tx a0) idx hgt).length Acu]) (blk_put (cs' := #[.int .i64 idx, .slice Av (sigL (tx a0) idx (tx msg)).length Acv, .slice none 0 0]) (blk_put (cs' := #[.int .i64 idx, .slice none 0 0, .slice none 0 0]) gR0 0 (.int .i64 idx) rfl) 1 (.slice Av (sigL (tx a0) idx (tx msg)).length Acv) rfl) 2 (.slice Au (pathL (tx a0) idx hgt).length Acu) rfl
  have hDg : D ≠ gR := by omega
  have d1 := (Below.heap_setCell ((wr.setCell ⟨gR, 0, none⟩ (.int .i64 idx)).setCell ⟨gR, 1, none⟩ (.slice Av (sigL (tx a0) idx (tx msg)).length Acv)) ⟨gR, 2, none⟩ (.slice Au (pathL (tx a0) idx hgt).length Acu) D hDg).trans
    ((Below.heap_setCell (wr.setCell ⟨gR, 0, none⟩ (.int .i64 idx)) ⟨gR, 1, none⟩ (.slice Av (sigL (tx a0) idx (tx msg)).length Acv) D hDg).trans ((Below.heap_setCell wr ⟨gR, 0, none⟩ (.int .i64 idx) D hDg).trans gD))
  have b1 := ((hB.setCell (p := ⟨gR, 0, none⟩) h0 (.int .i64 idx)).setCell (p := ⟨gR, 1, none⟩) h0 (.slice Av (sigL (tx a0) idx (tx msg)).length Acv)).setCell (p := ⟨gR, 2, none⟩) h0 (.slice Au (pathL (tx a0) idx hgt).length Acu)
  generalize ((wr.setCell ⟨gR, 0, none⟩ (.int .i64 idx)).setCell ⟨gR, 1, none⟩ (.slice Av (sigL (tx a0) idx (tx msg)).length Acv)).setCell ⟨gR, 2, none⟩ (.slice Au (pathL (tx a0) idx hgt).length Acu) = W5 at *
  clear hU hV gR0 gD hB
  have hDl : D < W5.heap.size := blk_lt d1
  have r2 : (W5.putObj D (.deferred none)).heap[gR]? = some (.cells #[.int .i64 idx, .slice Av (sigL (tx a0) idx (tx msg)).length Acv, .slice Au (pathL (tx a0) idx hgt).length Acu] 35 (0, 0)) := (World.putObj_heap_other (fun e => hDg e.symm)).trans r1
  have u2 := Kd.R_step (w1 := W5.putObj D (.deferred none)) (Kd.R_bound u1) (fun k hk _ => World.putObj_heap_other (fun e => by
    obtain ⟨_, _, _, q, _, cs, hc⟩ := hk
    rw [e, d1] at hc; cases hc))
  have v2 := Kd.R_step (w1 := W5.putObj D (.deferred none)) (Kd.R_bound v1) (fun k hk _ => World.putObj_heap_other (fun e => by
    obtain ⟨_, _, _, q, _, cs, hc⟩ := hk
    rw [e, d1] at hc; cases hc))
  have b2 : Below w.heap.size w (W5.putObj D (.deferred none)) := b1.trans (belowK_b (w := w) (Nat.le_refl _) W5 D _ _ (by omega) d1 rfl rfl)
  refine ⟨by simp, .inl ⟨_, _, rfl, run_takeDeferred d1, ?_⟩⟩
  refine ⟨_, results_ct rfl _ _ gR 35 _ (0, 0) _ t8 r2 Tryd.underlying35 rfl (by kernel_rfl), ?_⟩
  refine ⟨_, _, ?_, Kd.R_mono (Kd.R_lower v2 (by omega)) (fun k hk e => ?_), Kd.R_mono (Kd.R_lower u2 (by omega)) (fun k hk e => ?_), b2⟩
  · show Ending.returned _ = Ending.returned _
    rw [t9]
  · have := Kd.R_base u2 k e.symm; have := hk.1.2; omega
  · have h5 := (v2.1 k e.symm).1.2; have h6 := hk.1; omega
set_option maxRecDepth 100000 in
set_option maxHeartbeats 4000000 in
theorem sign_in (a0 : ByteArray) (hgt idx : Nat) (msg : ByteArray) (w : World) (hs : a0.size ≤ 10000) (hm : msg.size ≤ 140737488355328) (hh : hgt ≤ 8) (hi : idx < 2 ^ hgt) (hG : Glob w) :
    CallsIn Fence.wide 5 Tryd.prog 30 #[.string a0, .int .i64 hgt, .int .i64 idx, .string msg] w fun e w' => SignsTo a0 hgt idx msg w e w' := by
  have hpow : (2 : Int) ^ hgt = ((2 ^ hgt : Nat) : Int) := by simp
  have hp2 : 2 ^ hgt ≤ 256 := by have := Nat.pow_le_pow_right (show 0 < 2 by decide) hh; simpa using this
  generalize hP : 2 ^ hgt = Pw at *
  refine callsIn_of_wp_marks Tryd.func30 rfl trivial ?_ rfl
  simp only [Tryd.ntmps30, List.size_toArray, List.length_cons, List.length_nil, Nat.reduceAdd, Nat.reduceSub, Array.replicate_succ, Array.replicate_zero, List.push_toArray, List.append_toArray, List.nil_append, List.cons_append]
  refine wpIn_wide.2 ?_
  go_wp2
  have d1 : decide ((hgt : Int) < 0) = false := decide_eq_false (by omega)
  have d2 : decide ((8 : Int) < (hgt : Int)) = false := decide_eq_false (by omega)
  have d3 : decide ((idx : Int) < 0) = false := decide_eq_false (by omega)
  have d4 : decide ((Pw : Int) ≤ (idx : Int)) = false := decide_eq_false (by omega)
  have d5 : IntKind.i64.wrap (Pw : Int) = (Pw : Int) := IntWalk.i64_in _ (by omega)
  go_quiet (fail)
  clear d1 d2 d3 d4 d5
  go_wp2_with (go_at_call 52; refine (callsIn_wide.1 (digits_in 5 msg _)).mono ?_; rintro e w1 ⟨rfl, rfl⟩)
  obtain ⟨W0, hW0⟩ : ∃ W0, (((((((((w.alloc (.cells #[.string a0] 9)).alloc (.cells #[.int .i64 idx] 3)).alloc (.cells #[.int .i64 0, .slice none 0 0, .slice none 0 0] 35)).alloc (.cells #[.int .i64 0, .slice none 0 0, .slice none 0 0] 35)).drewN nq).setCell ⟨w.heap.size + 1 + 1 + 1, 0, none⟩ (.int .i64 idx)).setCell ⟨w.heap.size + 1 + 1 + 1, 1, none⟩ (.slice none 0 0)).setCell ⟨w.heap.size + 1 + 1 + 1, 2, none⟩ (.slice none 0 0)).alloc (.cells #[.string msg] 9)) = W0 := ⟨_, rfl⟩
  obtain ⟨hsz, bS, bI, bR, bO, bM, hB0⟩ := sign_start a0 msg idx nq w W0 hW0
  rw [hW0]
  clear hW0
  have hst := digits_stops 4 (by decide) (w.heap.size + 1 + 1 + 1 + 1) msg hm W0 (by omega) bM
  have o1 := blkRow_own (w.heap.size + 1 + 1 + 1) W0.heap.size W0.heap.size a0 msg idx
  have o2 : OwnFrom W0.heap.size (fun (pre : List (Fin 18)) W => Boxed W w.heap.size 9 (.string a0)) := Own.from (boxed_own _ _ _) _
  have o3 : OwnFrom W0.heap.size (fun (pre : List (Fin 18)) W => Boxed W (w.heap.size + 1) 3 (.int .i64 idx)) := Own.from (boxed_own _ _ _) _
  have o4 : OwnFrom W0.heap.size (fun (pre : List (Fin 18)) W => W.heap[w.heap.size + 1 + 1]? = some (.cells #[.int .i64 0, .slice none 0 0, .slice none 0 0] 35 (0, 0))) := blk_own _ _ _ _
  have o5 : OwnFrom W0.heap.size (fun (pre : List (Fin 18)) W => Below w.heap.size w W) := ownFrom_below (Nat.le_refl _) (by omega)
  have o6 : OwnFrom W0.heap.size (fun (pre : List (Fin 18)) W => W0.heap.size ≤ W.heap.size) := fun _ X Y row h hg _ => Nat.le_trans h hg.size
  refine (wpIn_wide (n := 5)).1 ?_
  refine wpIn_rangeFunc_ownG rfl (by decide) (gf := 83) (lb := #[.pointer (some ⟨w.heap.size + 1 + 1 + 1 + 1, 0, none⟩)]) rfl trivial (enters_of Tryd.func83 (by kernel_rfl) rfl)
    hst (fun _ _ => trivial) (fun _ _ _ _ _ _ _ _ => trivial) (Below.refl _ _) (fun _ => rfl) _ (fun _ _ _ => False) (OwnFrom.and (OwnFrom.and o1 (OwnFrom.and o2 o3)) (OwnFrom.and o4 (OwnFrom.and o5 o6))) (fun _ _ _ _ _ hs _ _ => hs) ⟨⟨⟨_, bO, World.ownsRow_nil _ _ _ _⟩, bS, bI⟩, bR, hB0, Nat.le_refl _⟩
    (fun x => { tmps := #[.string a0, .int .i64 hgt, .int .i64 idx, .string msg, .pointer (some ⟨w.heap.size, 0, none⟩), undef, .pointer (some ⟨w.heap.size + 1, 0, none⟩), undef, .pointer (some ⟨w.heap.size + 1 + 1, 0, none⟩), .int .i64 0, .pointer (some ⟨w.heap.size + 1 + 1 + 1, 0, none⟩), .int .i64 ((x.val : Nat) : Int), .int .i64 ((dAt (tx msg) x.val : Nat) : Int), undef, undef, .int .i64 hgt, .bool false, .bool false, .int .i64 hgt, .bool false, .bool false, .bool false, .int .i64 idx, .bool false, .bool false, .bool false, .int .i64 idx, .int .i64 hgt, .int .i64 Pw, .bool false, .bool false, undef, .int .i64 idx, .agg #[.int .i64 idx, .slice none 0 0, .slice none 0 0], .string msg, .func (.func 83) #[] #[.pointer (some ⟨w.heap.size + 1 + 1 + 1 + 1, 0, none⟩)], .int .i64 ((x.val : Nat) : Int), .int .i64 ((dAt (tx msg) x.val : Nat) : Int), undef, undef, undef, undef, undef, undef, undef, undef, undef, undef, undef, undef, undef, undef, undef, undef, undef, undef, undef, undef, undef, undef, undef, undef, undef, undef, undef, undef, undef, undef, undef, undef, undef], defers := [] }) ?assign ?body ?done ?stop
  case assign =>
    intro l x W K hK
    gi_wp2
    exact hK
  case stop =>
    rintro D c pre W _ _ h _
    exact h.elim
  case body =>
    rintro lr pre x W ⟨⟨⟨v, hv, hrow⟩, hbs, hbi⟩, hbr, hB, hN⟩ hlt
    have hc := hv
    dsimp only
    refine wpIn_block ?_
    refine region_in (noDefer_of (by kernel_rfl)) ?hlo (by kernel_rfl) ?_
    case hlo => rintro ⟨a, w', h⟩; exact h
    have r0 : W.cell? ⟨w.heap.size + 1 + 1 + 1, 1, none⟩ = some v := (blk_cell hv 1).trans rfl
    refine wpAny_of_last (S := fun w' => w'.cell? ⟨w.heap.size + 1 + 1 + 1, 1, none⟩ = some v ∧ w'.cell? ⟨w.heap.size, 0, none⟩ = some (.string a0) ∧ w'.cell? ⟨w.heap.size + 1, 0, none⟩ = some (.int .i64 idx)) (ds := [9, 11]) _ _ _ _ ?_
    show wpAnyLast _ _ _ _ _ _ 12 (#[false, false, false, false, false, false, false, false, false, false, false, false] : Array Bool) _ W.drew
    have hHeld : W.drew.cell? ⟨w.heap.size + 1 + 1 + 1, 1, none⟩ = some v ∧ W.drew.cell? ⟨w.heap.size, 0, none⟩ = some (.string a0) ∧ W.drew.cell? ⟨w.heap.size + 1, 0, none⟩ = some (.int .i64 idx) := ⟨r0, hbs.cell, hbi.cell⟩
    generalize hWd : W.drew = Wd at hHeld ⊢
    refine pure_ (i := 0) (N := some 38) (v := ?_) (a' := ?_) #[true, false, false, false, false, false, false, false, false, false, false, false] rfl rfl (any_of rfl (by kernel_rfl)) (fun _ _ _ h => h) (Or.inl ⟨by rfl, ?_⟩) ?_ ?_
    rotate_left
    · intro w'
      go_simp
      with_reducible rfl
    rotate_left
    · simp only [Act.put, List.setIfInBounds_toArray, List.set_cons_zero, List.set_cons_succ, i64_w, i32_w]
      rfl
    refine take_ (i := 1) (N := some 39) (v := ?_) (a' := ?_) #[true, true, false, false, false, false, false, false, false, false, false, false] rfl rfl (take_of rfl (by kernel_rfl)) (fun _ _ _ h => h) (Or.inl ⟨by rfl, ?_⟩) hHeld ?_ ?_
    rotate_left
    · rintro w' ⟨s0, s1, s2⟩
      go_simp
      with_reducible rfl
    rotate_left
    · simp only [Act.put, List.setIfInBounds_toArray, List.set_cons_zero, List.set_cons_succ, i64_w, i32_w]
      rfl
    refine take_ (i := 2) (N := some 40) (v := ?_) (a' := ?_) #[true, true, true, false, false, false, false, false, false, false, false, false] rfl rfl (take_of rfl (by kernel_rfl)) (fun _ _ _ h => h) (Or.inl ⟨by rfl, ?_⟩) hHeld ?_ ?_
    rotate_left
    · rintro w' ⟨s0, s1, s2⟩
      go_simp
      with_reducible rfl
    rotate_left
    · simp only [Act.put, List.setIfInBounds_toArray, List.set_cons_zero, List.set_cons_succ, i64_w, i32_w]
      rfl
    refine take_ (i := 3) (N := some 41) (v := ?_) (a' := ?_) #[true, true, true, true, false, false, false, false, false, false, false, false] rfl rfl (take_of rfl (by kernel_rfl)) (fun _ _ _ h => h) (Or.inl ⟨by rfl, ?_⟩) hHeld ?_ ?_
    rotate_left
    · rintro w' ⟨s0, s1, s2⟩
      go_simp
      with_reducible rfl
    rotate_left
    · simp only [Act.put, List.setIfInBounds_toArray, List.set_cons_zero, List.set_cons_succ, i64_w, i32_w]
      rfl
    refine pure_ (i := 4) (N := some 42) (v := ?_) (a' := ?_) #[true, true, true, true, true, false, false, false, false, false, false, false] rfl rfl (any_of rfl (by kernel_rfl)) (fun _ _ _ h => h) (Or.inl ⟨by rfl, ?_⟩) ?_ ?_
    rotate_left
    · intro w'
      go_simp
      with_reducible rfl
    rotate_left
    · simp only [Act.put, List.setIfInBounds_toArray, List.set_cons_zero, List.set_cons_succ, i64_w, i32_w]
      rfl
    refine pure_ (i := 6) (N := some 44) (v := ?_) (a' := ?_) #[true, true, true, true, true, false, true, false, false, false, false, false] rfl rfl (any_of rfl (by kernel_rfl)) (fun _ _ _ h => h) (Or.inl ⟨by rfl, ?_⟩) ?_ ?_
    rotate_left
    · intro w'
      go_simp
      with_reducible rfl
    rotate_left
    · simp only [Act.put, List.setIfInBounds_toArray, List.set_cons_zero, List.set_cons_succ, i64_w, i32_w]
      rfl
    obtain ⟨t43, h43⟩ : ∃ r, r = ofT (Dig.start0 (tx a0) idx x.val) := ⟨_, rfl⟩
    obtain ⟨t45, h45⟩ : ∃ r, r = sigAt (tx a0) idx (tx msg) x.val := ⟨_, rfl⟩
    have hf1 : seal_start.f a0 idx x.val = some t43 := by
      have := x.isLt
      unfold seal_start.f
      rw [if_pos ⟨hs, ⟨by omega, by omega⟩, ⟨by omega, by omega⟩⟩, h43]; rfl
    have hf2 : seal_chain.f t43 (dAt (tx msg) x.val) = some t45 := by
      rw [h43, h45, sChain _ _ (start_big _ _ _) (Nat.le_trans (dAt_le _ _) (by decide))]; rfl
    have Hr := Aside0.mk h45
    have F1 := Aside0.mk hf1
    have F2 := Aside0.mk hf2
    clear hf1 hf2 h43 h45
    have hbd : Below w.heap.size w Wd := by rw [← hWd]; exact hB.drew
    refine one_ (i := 5) (N := some 43) #[true, true, true, true, true, true, true, false, false, false, false, false] rfl rfl (one_of rfl (by kernel_rfl)) (by decide) (fun K hK => ?_)
    refine goes_ Tryd.func54 (by kernel_rfl) rfl #[.string a0, .int .i64 idx, .int .i64 x.val] (by rfl) rfl rfl (by (try simp only [List.map_toArray, List.map_cons, List.map_nil]); first | done | rfl) ?_
    refine (seal_start.calls _ _ _ t43 Wd F1.out (Glob.below hG hbd)).mono ?_
    rintro e W1 ⟨rfl, hb⟩
    refine ⟨_, rfl, ?_⟩
    have hgd : Wd.grownBy W1 none := ⟨hb.os, hb.tape, hb.output, hb.size, fun k hk _ => hb.block k hk⟩
    have bv : W1.heap[w.heap.size + 1 + 1 + 1]? = some (.cells #[.int .i64 idx, v, .slice none 0 0] 35 (0, 0)) := blk_below (by rw [← hWd]; exact hv) hb
    have brow : W1.ownsRow W0.heap.size 9 1 v pre.length (pre.map fun j => Value.string (sigAt (tx a0) idx (tx msg) j.val)) := World.ownsRow.kept (w := Wd) (by rw [← hWd]; exact hrow.drew) hgd (Classical.em _)
    have bs1 : Boxed W1 w.heap.size 9 (.string a0) := Boxed.kept (W := Wd) (by rw [← hWd]; exact hbs) hgd (by simp)
    have bi1 : Boxed W1 (w.heap.size + 1) 3 (.int .i64 idx) := Boxed.kept (W := Wd) (by rw [← hWd]; exact hbi) hgd (by simp)
    have br1 : W1.heap[w.heap.size + 1 + 1]? = some (.cells #[.int .i64 0, .slice none 0 0, .slice none 0 0] 35 (0, 0)) := blk_below (by rw [← hWd]; exact hbr) hb
    have hB1 : Below w.heap.size w W1 := hbd.trans (hb.mono hbd.size)
    have k1 : KeepsOthers W W1 := KeepsOthers.of_grownBy (row := none) (by rw [← hWd] at hgd; exact ⟨hgd.os, hgd.tape, hgd.output, hgd.size, hgd.block⟩) (fun j o ej _ => by cases ej)
    refine hK.out _ _ ⟨(blk_cell bv 1).trans rfl, bs1.cell, bi1.cell⟩ (fun hHeld => ?_)
    clear hK K
    refine norm_ (a' := ?_) ?_ ?_
    rotate_left
    · show Act.put _ (some 43) _ = _
      simp only [Act.put, List.setIfInBounds_toArray, List.set_cons_zero, List.set_cons_succ, i64_w, i32_w]
      rfl
    refine one_ (i := 7) (N := some 45) #[true, true, true, true, true, true, true, true, false, false, false, false] rfl rfl (one_of rfl (by kernel_rfl)) (by decide) (fun K hK => ?_)
    refine goes_ Tryd.func53 (by kernel_rfl) rfl #[.string t43, .int .i64 (dAt (tx msg) x.val)] (by rfl) rfl rfl (by (try simp only [List.map_toArray, List.map_cons, List.map_nil]); first | done | rfl) ?_
    refine (seal_chain.calls _ _ t45 W1 F2.out).mono ?_
    rintro e W2 ⟨rfl, hb2⟩
    refine ⟨_, rfl, ?_⟩
    have hgd2 : W1.grownBy W2 none := ⟨hb2.os, hb2.tape, hb2.output, hb2.size, fun k hk _ => hb2.block k hk⟩
    replace bv := blk_below bv hb2
    replace brow := brow.kept hgd2 (Classical.em _)
    replace bs1 := bs1.kept hgd2 (by simp)
    replace bi1 := bi1.kept hgd2 (by simp)
    replace br1 := blk_below br1 hb2
    replace hB1 := hB1.trans (hb2.mono hB1.size)
    replace k1 := k1.trans (KeepsOthers.of_grownBy (row := none) hgd2 (fun j o ej _ => by cases ej))
    have hN2 : W0.heap.size ≤ W2.heap.size := Nat.le_trans hN k1.size
    clear hgd hgd2 hb hb2
    refine hK.out _ _ ⟨(blk_cell bv 1).trans rfl, bs1.cell, bi1.cell⟩ (fun hHeld => ?_)
    clear hK K
    refine norm_ (a' := ?_) ?_ ?_
    rotate_left
    · show Act.put _ (some 45) _ = _
      simp only [Act.put, List.setIfInBounds_toArray, List.set_cons_zero, List.set_cons_succ, i64_w, i32_w]
      rfl
    refine one_ (i := 8) (N := some 46) #[true, true, true, true, true, true, true, true, true, false, false, false] rfl rfl (one_of rfl (by kernel_rfl)) (by decide) (fun K hK => ?_)
    refine value_ (w1 := ?_) (v := ?_) (by rfl) rfl ?_ ?_
    rotate_left 2
    · go_simp
      constructor
      · rfl
      · rfl
    refine hK.out _ _ ⟨(blk_cell (blk_alloc bv _) 1).trans rfl, (bs1.alloc _).cell, (bi1.alloc _).cell⟩ (fun hHeld => ?_)
    clear hK K
    refine norm_ (a' := ?_) ?_ ?_
    rotate_left
    · show Act.put _ (some 46) _ = _
      simp only [Act.put, List.setIfInBounds_toArray, List.set_cons_zero, List.set_cons_succ, i64_w, i32_w]
      rfl
    refine last_ (i := 9) (N := some 47) #[true, true, true, true, true, true, true, true, true, true, false, false] rfl rfl (one_of rfl (by kernel_rfl)) (by decide) (fun K hK => ?_)
    refine step_append_cells (w0 := W2) W0.heap.size ?hwant (.tmp 39) (.tmp 46) 22 9 (.string ⟨#[]⟩) 1 16 ?hop Tryd.underlying22 PCb.info9 rfl (by decide) (by omega) v pre.length _ [.string t45] ?hsv ?hxv rfl (by simp [Value.oneCell']) brow (Below.refl _ _) hN2 (by omega) ?_
    (case hop => rfl)
    (case hwant => rfl)
    (case hsv => rfl)
    (case hxv => rfl)
    intro v1 w2 hown2 hb2 hg2 hat2
    obtain ⟨g', cap', rfl⟩ := ownsRow_succ hown2
    refine hK.out _ _ ?_
    clear hK K
    refine norm_ (a' := ?_) ?_ ?_
    rotate_left
    · show Act.put _ (some 47) _ = _
      simp only [Act.put, List.setIfInBounds_toArray, List.set_cons_zero, List.set_cons_succ, i64_w, i32_w]
      rfl
    have hlt2 : w.heap.size + 1 + 1 + 1 < W0.heap.size := by omega
    have bv2 := blk_grown bv hg2 (row_ne brow (by omega))
    have br2 := blk_grown br1 hg2 (row_ne brow (by omega))
    have bs2 := bs1.kept hg2 (row_ne brow (by omega))
    have bi2 := bi1.kept hg2 (row_ne brow (by omega))
    have hs2 : w2.cell? ⟨w.heap.size + 1 + 1 + 1, 1, none⟩ = some v := (blk_cell bv2 1).trans rfl
    have hf2 := blk_frozen bv2 1
    refine pure_ (i := 10) (N := some 48) (v := ?_) (a' := ?_) #[true, true, true, true, true, true, true, true, true, true, true, false] rfl rfl (any_of rfl (by kernel_rfl)) (fun _ _ _ h => h) (Or.inl ⟨by rfl, ?_⟩) ?_ ?_
    rotate_left
    · intro w'
      go_simp
      with_reducible rfl
    rotate_left
    · simp only [Act.put, List.setIfInBounds_toArray, List.set_cons_zero, List.set_cons_succ, i64_w, i32_w]
      rfl
    refine last_ (i := 11) (N := none) #[true, true, true, true, true, true, true, true, true, true, true, true] rfl rfl (one_of rfl (by kernel_rfl)) (by decide) (fun K hK => ?_)
    refine skip_ (w1 := ?_) (by rfl) rfl ?_ ?_
    rotate_left
    · go_simp
      rfl
    refine hK.out _ _ ?_
    clear hK K
    refine done_ (done_of rfl (by kernel_rfl)) ?_
    clear hs2 hf2
    have hown3 := hown2.kept (grownBy_setCellI w2 (w.heap.size + 1 + 1 + 1) 1 (.slice (some ⟨g', 0, none⟩) (pre.length + 1) cap')) (.inr (row_ne hown2 (by omega)).symm)
    have k2 : KeepsOthers W2 w2 := KeepsOthers.of_grownBy hg2 fun j o ej hj => by
      rcases brow.2 with ⟨rfl, _⟩ | ⟨g, cap, cur, rfl, _, hgb, _⟩
      · simp [Value.ownBlock] at ej
      · obtain rfl : j = g := by simpa [Value.ownBlock] using ej.symm
        rw [hgb] at hj; cases hj; rfl
    have k3 := (k1.trans k2).trans (KeepsOthers.setCell w2 ⟨w.heap.size + 1 + 1 + 1, 1, none⟩ (.slice (some ⟨g', 0, none⟩) (pre.length + 1) cap'))
    have hB3 : Below w.heap.size w (w2.setCell ⟨w.heap.size + 1 + 1 + 1, 1, none⟩ (.slice (some ⟨g', 0, none⟩) (pre.length + 1) cap')) := (hB1.trans (hb2.mono (by omega))).setCell (p := ⟨w.heap.size + 1 + 1 + 1, 1, none⟩) (by show w.heap.size ≤ w.heap.size + 1 + 1 + 1; omega) _
    refine ⟨k3.from _, trivial, ⟨⟨_, blk_put (cs' := #[.int .i64 idx, .slice (some ⟨g', 0, none⟩) (pre.length + 1) cap', .slice none 0 0]) bv2 1 _ rfl, ?_⟩, ?_, ?_⟩, ?_, hB3, Nat.le_trans hN k3.size⟩
    · rw [List.length_append, List.map_append, List.map_cons, List.map_nil, ← Hr.out]
      exact hown3
    · exact bs2.kept (grownBy_setCellI w2 (w.heap.size + 1 + 1 + 1) 1 _) (fun e => by injection e with e; omega)
    · exact bi2.kept (grownBy_setCellI w2 (w.heap.size + 1 + 1 + 1) 1 _) (fun e => by injection e with e; omega)
    · exact blk_far br2 (p := ⟨w.heap.size + 1 + 1 + 1, 1, none⟩) (by show w.heap.size + 1 + 1 ≠ w.heap.size + 1 + 1 + 1; omega) _
  case done =>
    rintro D ys W hD rfl ⟨⟨⟨v, hv, hrow⟩, hbs, hbi⟩, hbr, hB, hN⟩ hK
    gi_wp2
    refine wp_mono ?_ (noPanic_le _)
    go_wp2
    rw [List.length_finRange] at hrow
    have hV0 : Kd.R Kd.string 9 W W0.heap.size (fun k => W0.heap.size ≤ k ∧ k < W.heap.size) v (sigL (tx a0) idx (tx msg)) := by
      have e : encs Value.string (sigL (tx a0) idx (tx msg)) = (List.finRange 18).map fun j => Value.string (sigAt (tx a0) idx (tx msg) j.val) := by unfold encs sigL; rw [List.map_map]; rfl
      refine Kd.R_mono (Kd.R_bound (Kd.R_of_own (ok := fun _ => True) ?_ (fun _ _ => trivial))) (fun k hk => ⟨hk.2.1, hk.2.2.1⟩)
      rw [e, sigL_len]
      exact hrow
    clear hrow hst o1 o2 o3 o4 o5 o6 bM bO bR bS bI
    refine start_ (n := 6) (S := fun w' => w'.cell? ⟨w.heap.size, 0, none⟩ = some (.string a0) ∧ w'.cell? ⟨w.heap.size + 1, 0, none⟩ = some (.int .i64 idx)) (ds := []) #[false, false, false, false, false, false] (by kernel_rfl) rfl rfl ⟨hbs.cell, hbi.cell⟩ (fun hHeld => ?_)
    obtain ⟨Wd, hWd⟩ : ∃ Wd, Wd = W.drew := ⟨_, rfl⟩
    rw [← hWd] at hHeld ⊢
    have hV : Kd.R Kd.string 9 Wd W0.heap.size (fun k => W0.heap.size ≤ k ∧ k < W.heap.size) v (sigL (tx a0) idx (tx msg)) := by rw [hWd]; exact Kd.R_drew hV0
    have gO : Wd.heap[w.heap.size + 1 + 1 + 1]? = some (.cells #[.int .i64 idx, v, .slice none 0 0] 35 (0, 0)) := by rw [hWd]; exact hv
    have gR : Wd.heap[w.heap.size + 1 + 1]? = some (.cells #[.int .i64 0, .slice none 0 0, .slice none 0 0] 35 (0, 0)) := by rw [hWd]; exact hbr
    have gD : Wd.heap[D]? = some (.deferred (some [])) := by rw [hWd]; exact hK
    have hBd : Below w.heap.size w Wd := by rw [hWd]; exact hB.drew
    have hNd : W0.heap.size ≤ Wd.heap.size := by rw [hWd]; exact hN
    have hsW : W.heap.size = Wd.heap.size := by rw [hWd]; rfl
    rw [hsW] at hV
    have hDlt := blk_lt gD
    clear hV0 hv hbr hK hB hN hWd hbs hbi hsW
    refine take_ (i := 0) (N := some 49) (v := ?_) (a' := ?_) #[true, false, false, false, false, false] rfl rfl (take_of rfl (by kernel_rfl)) (fun _ _ _ h => h) (Or.inl ⟨by rfl, ?_⟩) hHeld ?_ ?_
    rotate_left
    · rintro w' ⟨s0, s1⟩
      go_simp
      with_reducible rfl
    rotate_left
    · simp only [Act.put, List.setIfInBounds_toArray, List.set_cons_zero, List.set_cons_succ, i64_w, i32_w]
      rfl
    refine pure_ (i := 1) (N := some 50) (v := ?_) (a' := ?_) #[true, true, false, false, false, false] rfl rfl (any_of rfl (by kernel_rfl)) (fun _ _ _ h => h) (Or.inl ⟨by rfl, ?_⟩) ?_ ?_
    rotate_left
    · intro w'
      go_simp
      with_reducible rfl
    rotate_left
    · simp only [Act.put, List.setIfInBounds_toArray, List.set_cons_zero, List.set_cons_succ, i64_w, i32_w]
      rfl
    refine take_ (i := 3) (N := some 52) (v := ?_) (a' := ?_) #[true, true, false, true, false, false] rfl rfl (take_of rfl (by kernel_rfl)) (fun _ _ _ h => h) (Or.inl ⟨by rfl, ?_⟩) hHeld ?_ ?_
    rotate_left
    · rintro w' ⟨s0, s1⟩
      go_simp
      with_reducible rfl
    rotate_left
    · simp only [Act.put, List.setIfInBounds_toArray, List.set_cons_zero, List.set_cons_succ, i64_w, i32_w]
      rfl
    refine one_ (i := 2) (N := some 51) #[true, true, true, true, false, false] rfl rfl (one_of rfl (by kernel_rfl)) (by decide) (fun K hK => ?_)
    refine goes_ Tryd.func48 (by kernel_rfl) rfl #[.string a0, .int .i64 hgt] (by rfl) rfl rfl (by (try simp only [List.map_toArray, List.map_cons, List.map_nil]); first | done | rfl) ?_
    refine (keys_calls a0 hgt Wd hs (by omega) (Glob.below hG hBd)).mono ?_
    rintro e W1 ⟨vl, rfl, hL, hb⟩
    refine ⟨_, rfl, ?_⟩
    replace gO := blk_below gO hb
    replace gR := blk_below gR hb
    replace gD := blk_below gD hb
    replace hV := Kd.R_below hV hb
    replace hBd := hBd.trans (hb.mono hBd.size)
    have hN1 := Nat.le_trans hNd hb.size
    have hlev := Kd.R_mono (Kd.R_bound hL) (ok' := fun k => Wd.heap.size ≤ k ∧ k < W1.heap.size) (fun k hk => ⟨hk.2.1, hk.2.2.1⟩)
    have hs1 := hb.size
    refine hK.out _ _ ⟨(hb.cell (World.block_lt_of_cell? _ _ hHeld.1)).trans hHeld.1, (hb.cell (World.block_lt_of_cell? _ _ hHeld.2)).trans hHeld.2⟩ (fun hHeld1 => ?_)
    clear hHeld
    have hHeld := hHeld1
    clear hHeld1
    clear hK K
    refine norm_ (a' := ?_) ?_ ?_
    rotate_left
    · show Act.put _ (some 51) _ = _
      simp only [Act.put, List.setIfInBounds_toArray, List.set_cons_zero, List.set_cons_succ, i64_w, i32_w]
      rfl
    refine pure_ (i := 4) (N := some 13) (v := ?_) (a' := ?_) #[true, true, true, true, true, false] rfl rfl (any_of rfl (by kernel_rfl)) (fun _ _ _ h => h) (Or.inl ⟨by rfl, ?_⟩) ?_ ?_
    rotate_left
    · intro w'
      go_simp
      with_reducible rfl
    rotate_left
    · simp only [Act.put, List.setIfInBounds_toArray, List.set_cons_zero, List.set_cons_succ, i64_w, i32_w]
      rfl
    refine pure_ (i := 5) (N := some 14) (v := ?_) (a' := ?_) #[true, true, true, true, true, true] rfl rfl (any_of rfl (by kernel_rfl)) (fun _ _ _ h => h) (Or.inl ⟨by rfl, ?_⟩) ?_ ?_
    rotate_left
    · intro w'
      go_simp
      with_reducible rfl
    rotate_left
    · simp only [Act.put, List.setIfInBounds_toArray, List.set_cons_zero, List.set_cons_succ, i64_w, i32_w]
      rfl
    refine done_ (done_of rfl (by kernel_rfl)) ?_
    clear hL hb
    obtain ⟨N0, hN0⟩ : ∃ N0, N0 = W0.heap.size := ⟨_, rfl⟩
    rw [← hN0] at hV hN1 hNd
    obtain ⟨N1, hN1'⟩ : ∃ N1, N1 = W1.heap.size := ⟨_, rfl⟩
    have hgN : w.heap.size + 5 = N0 := by omega
    have hN01 : N0 ≤ N1 := by omega
    have hDN : D < N1 := by omega
    have hDN0 : N0 ≤ D := by omega
    have hL0 : SignLoop a0 hgt idx msg w D N0 N1 v vl (.int .i64 idx) W1 := by
      refine ⟨0, .slice none 0 0, Nat.zero_le _, by simp, ?_, Kd.R_nil _ _ _ _ _, gO, gR, gD, Kd.R_mono hV (fun k hk => ⟨hk.1, by omega⟩), hBd, by omega⟩
      exact Kd.R_mono (Kd.R_lower hlev (by omega)) (fun k hk => ⟨by omega, by simp [Value.ownBlock]⟩)
    clear hlev gO gR gD hV hBd hDlt hs1 hHeld hN1 hsz hB0 hD hNd hN0 hN1'
    go_wp2
    go_loopw [13, 14] (fun l i wr => SignLoop a0 hgt idx msg w D N0 N1 v l i wr) (fun l _ _ => lenV l)
    case atStart => exact hL0
    case round =>
      clear hL0
      obtain ⟨j, u, hj, rfl, hL, hU, gO, gR, gD, hV, hB, hN⟩ := hrel
      obtain ⟨Al, Ac, rfl⟩ := Kd.R_slice hL
      have hlen := lvl_len (tx a0) (2 ^ (hgt - j)) j
      have hLC := (Kd.R_reads' hL).2
      rw [hlen] at hLC hL ⊢
      have hLL := lvl_size (tx a0) (2 ^ (hgt - j)) j
      by_cases hjh : j < hgt
      · obtain ⟨m, hm2⟩ : ∃ m, 2 ^ (hgt - j) = 2 * m := ⟨2 ^ (hgt - j - 1), by rw [show hgt - j = hgt - j - 1 + 1 by omega, Nat.pow_succ, Nat.mul_comm]; rfl⟩
        have hx0 : idx / 2 ^ j < 2 ^ (hgt - j) := by
          rw [Nat.div_lt_iff_lt_mul (Nat.two_pow_pos j), ← Nat.pow_add, show hgt - j + j = hgt by omega, hP]; exact hi
        have hs0 : Dig.sib (idx / 2 ^ j) < 2 * m := sib_lt (by rw [← hm2]; exact hx0)
        obtain ⟨x, hx⟩ : ∃ x, idx / 2 ^ j = x := ⟨_, rfl⟩
        obtain ⟨sx, hsx⟩ : ∃ sx, Dig.sib x = sx := ⟨_, rfl⟩
        have hp9 : 2 * m ≤ 256 := by rw [← hm2]; exact Nat.le_trans (pow_le (show hgt - j ≤ 8 by omega)) (by decide)
        rw [hx, hsx] at hs0
        rw [hx] at hx0 ⊢
        obtain ⟨n, hn⟩ : ∃ n, n = 2 * m := ⟨_, rfl⟩
        rw [← hn] at hm2 hs0 hp9
        rw [hm2] at hx0 hL hLC hlen hLL ⊢
        obtain ⟨al, rfl, hcell⟩ := Kd.at_string hLC.2 (sx : Int) (by omega) (by omega)
        rw [Int.toNat_natCast] at hcell
        have hX : bits .xor .i64 (x : Int) 1 = (sx : Int) := by rw [xor_sib x (by omega), hsx]
        have hq0 : ((0 : Int) ≤ (sx : Int)) = True := eq_true (by omega)
        have hq1 : ((sx : Int) < (n : Int)) = True := eq_true (by omega)
        have HX := Lib.hid (And.intro hx (And.intro hsx (And.intro hm2 (And.intro hn (And.intro hlen (And.intro hLL hLC.1))))))
        have d1 : decide ((1 : Int) < (n : Int)) = true := decide_eq_true (by omega)
        have hsz5 : w.heap.size + 5 ≤ N0 := by omega
        clear hx hsx hn hm2 hlen hLL hP hpow hgN
        go_wp2
        clear d1
        have hb2 : (al.add sx).block < wr.heap.size := World.block_lt_of_cell? _ _ hcell
        refine start_ (n := 11) (S := fun w' => w'.cell? ⟨w.heap.size + 1 + 1 + 1, 2, none⟩ = some u ∧ w'.cell? (al.add sx) = some (.string (rdOf ByteArray.empty (lvl (tx a0) n j) (sx : Int)))) (ds := [8, 10]) #[false, false, false, false, false, false, false, false, false, false, false] (by kernel_rfl) rfl rfl ⟨(blk_cell gO 2).trans rfl, hcell⟩ (fun hHeld => ?_)
        generalize ht66 : rdOf ByteArray.empty (lvl (tx a0) n j) (sx : Int) = t66 at hHeld ⊢
        have HT66 := Lib.hid ht66
        clear ht66 hcell
        obtain ⟨Wd, hWd⟩ : ∃ Wd, Wd = wr.drew := ⟨_, rfl⟩
        rw [← hWd] at hHeld ⊢
        have hLd : Kd.R Kd.string 9 Wd N0 (fun k => N0 ≤ k ∧ some k ≠ u.ownBlock) (.slice (some al) n Ac) (lvl (tx a0) n j) := by rw [hWd]; exact Kd.R_drew hL
        replace hU : Kd.R Kd.string 9 Wd N1 (fun k => N1 ≤ k) u (pathL (tx a0) idx j) := by rw [hWd]; exact Kd.R_drew hU
        replace hV : Kd.R Kd.string 9 Wd N0 (fun k => N0 ≤ k ∧ k < N1) v (sigL (tx a0) idx (tx msg)) := by rw [hWd]; exact Kd.R_drew hV
        replace gO : Wd.heap[w.heap.size + 1 + 1 + 1]? = some (.cells #[.int .i64 idx, v, u] 35 (0, 0)) := by rw [hWd]; exact gO
        replace gR : Wd.heap[w.heap.size + 1 + 1]? = some (.cells #[.int .i64 0, .slice none 0 0, .slice none 0 0] 35 (0, 0)) := by rw [hWd]; exact gR
        replace gD : Wd.heap[D]? = some (.deferred (some [])) := by rw [hWd]; exact gD
        replace hB : Below w.heap.size w Wd := by rw [hWd]; exact hB.drew
        replace hN : N1 ≤ Wd.heap.size := by rw [hWd]; exact hN
        clear hL hLC hWd hb2
        refine pure_ (i := 0) (N := some 60) (v := ?_) (a' := ?_) #[true, false, false, false, false, false, false, false, false, false, false] rfl rfl (any_of rfl (by kernel_rfl)) (fun _ _ _ h => h) (Or.inl ⟨by rfl, ?_⟩) ?_ ?_
        rotate_left
        · intro w'
          go_simp
          with_reducible rfl
        rotate_left
        · simp only [Act.put, List.setIfInBounds_toArray, List.set_cons_zero, List.set_cons_succ, i64_w, i32_w]
          rfl
        refine take_ (i := 1) (N := some 61) (v := ?_) (a' := ?_) #[true, true, false, false, false, false, false, false, false, false, false] rfl rfl (take_of rfl (by kernel_rfl)) (fun _ _ _ h => h) (Or.inl ⟨by rfl, ?_⟩) hHeld ?_ ?_
        rotate_left
        · rintro w' ⟨s0, s1⟩
          go_simp
          with_reducible rfl
        rotate_left
        · simp only [Act.put, List.setIfInBounds_toArray, List.set_cons_zero, List.set_cons_succ, i64_w, i32_w]
          rfl
        refine pure_ (i := 2) (N := some 62) (v := ?_) (a' := ?_) #[true, true, true, false, false, false, false, false, false, false, false] rfl rfl (any_of rfl (by kernel_rfl)) (fun _ _ _ h => h) (Or.inl ⟨by rfl, ?_⟩) ?_ ?_
        rotate_left
        · intro w'
          go_simp
          with_reducible rfl
        rotate_left
        · simp only [Act.put, List.setIfInBounds_toArray, List.set_cons_zero, List.set_cons_succ, i64_w, i32_w]
          rfl
        refine pure_ (i := 3) (N := some 63) (v := ?_) (a' := ?_) #[true, true, true, true, false, false, false, false, false, false, false] rfl rfl (any_of rfl (by kernel_rfl)) (fun _ _ _ h => h) (Or.inl ⟨by rfl, ?_⟩) ?_ ?_
        rotate_left
        · intro w'
          go_simp
          with_reducible rfl
        rotate_left
        · simp only [Act.put, List.setIfInBounds_toArray, List.set_cons_zero, List.set_cons_succ, i64_w, i32_w]
          rfl
        refine pure_ (i := 4) (N := some 64) (v := .int .i64 sx) (a' := ?_) #[true, true, true, true, true, false, false, false, false, false, false] rfl rfl (any_of rfl (by kernel_rfl)) (fun _ _ _ h => h) (Or.inl ⟨by rfl, ?_⟩) ?_ ?_
        · intro w'
          go_simp
        rotate_left
        · simp only [Act.put, List.setIfInBounds_toArray, List.set_cons_zero, List.set_cons_succ, i64_w, i32_w]
          rfl
        clear hX
        refine pure_ (i := 5) (N := some 65) (v := ?_) (a' := ?_) #[true, true, true, true, true, true, false, false, false, false, false] rfl rfl (any_of rfl (by kernel_rfl)) (fun _ _ _ h => h) (Or.inl ⟨by rfl, ?_⟩) ?_ ?_
        rotate_left
        · intro w'
          go_simp
          with_reducible rfl
        rotate_left
        · simp only [Act.put, List.setIfInBounds_toArray, List.set_cons_zero, List.set_cons_succ, i64_w, i32_w]
          rfl
        refine take_ (i := 6) (N := some 66) (v := ?_) (a' := ?_) #[true, true, true, true, true, true, true, false, false, false, false] rfl rfl (take_of rfl (by kernel_rfl)) (fun _ _ _ h => h) (Or.inl ⟨by rfl, ?_⟩) hHeld ?_ ?_
        rotate_left
        · rintro w' ⟨s0, s1⟩
          go_simp
          with_reducible rfl
        rotate_left
        · simp only [Act.put, List.setIfInBounds_toArray, List.set_cons_zero, List.set_cons_succ, i64_w, i32_w]
          rfl
        refine one_ (i := 7) (N := some 67) #[true, true, true, true, true, true, true, true, false, false, false] rfl rfl (one_of rfl (by kernel_rfl)) (by decide) (fun K hK => ?_)
        refine value_ (w1 := ?_) (v := ?_) (by rfl) rfl ?_ ?_
        rotate_left 2
        · go_simp
          constructor
          · rfl
          · rfl
        refine hK.out _ _ ⟨(blk_cell (blk_alloc gO _) 2).trans rfl, (World.cell?_alloc_lt _ _ _ (World.block_lt_of_cell? _ _ hHeld.2)).trans hHeld.2⟩ (fun hHeld1 => ?_)
        clear hHeld
        clear hK K
        refine norm_ (a' := ?_) ?_ ?_
        rotate_left
        · show Act.put _ (some 67) _ = _
          simp only [Act.put, List.setIfInBounds_toArray, List.set_cons_zero, List.set_cons_succ, i64_w, i32_w]
          rfl
        refine last_ (i := 8) (N := some 68) #[true, true, true, true, true, true, true, true, true, false, false] rfl rfl (one_of rfl (by kernel_rfl)) (by decide) (fun K hK => ?_)
        have hpl : (pathL (tx a0) idx j).length ≤ 8 := by rw [pathL_len]; omega
        refine Kd.R_append_step Kd.string (w0 := Wd) N1 (by rfl) (.tmp 61) (.tmp 67) 22 9 (.string ⟨#[]⟩) 16 rfl Tryd.underlying22 PCb.info9 rfl (by decide) (by omega) u (pathL (tx a0) idx j) t66 [.string t66] (fun k => N1 ≤ k) (fun _ => False) rfl rfl ?aP (fun _ hk => hk.elim) ?aF ?aO ?aB ?aS ?aL ?_
        (case aP => exact rfl)
        (case aB => exact (Below.refl _ _))
        (case aF => exact (fun k hk => Nat.le_trans hN hk))
        (case aO => exact hU)
        (case aS => exact hN)
        (case aL => omega)
        intro u1 w2 hU1 hb2 hg2 hat2
        have hL2 := Kd.R_after hLd hg2 hat2
        have hune : ∀ k, k < N1 → some k ≠ u.ownBlock := fun k hk e => by have := Kd.R_base hU k e.symm; omega
        have gO2 := blk_grown gO hg2 (hune _ (by omega))
        have gR2 := blk_grown gR hg2 (hune _ (by omega))
        have gD2 := blk_grown gD hg2 (hune _ hDN)
        have hV2 := Kd.R_grown hV hg2 (fun k hk => hune k hk.2)
        have hB2 : Below w.heap.size w w2 := hB.trans (hb2.mono (by omega))
        have hN2 : N1 ≤ w2.heap.size := Nat.le_trans hN hg2.size
        obtain ⟨Au, Acu, rfl⟩ := Kd.R_slice hU1
        have hpl1 : (pathL (tx a0) idx j ++ [t66]).length = j + 1 := by rw [List.length_append, pathL_len]; rfl
        rw [hpl1] at hU1 ⊢
        clear hpl1 hpl
        clear hLd gO gR gD hV hB hN hg2 hat2 hb2 hU hune hHeld1
        refine hK.out _ _ ?_
        clear hK K
        refine norm_ (a' := ?_) ?_ ?_
        rotate_left
        · show Act.put _ (some 68) _ = _
          simp only [Act.put, List.setIfInBounds_toArray, List.set_cons_zero, List.set_cons_succ, i64_w, i32_w]
          rfl
        refine pure_ (i := 9) (N := some 69) (v := ?_) (a' := ?_) #[true, true, true, true, true, true, true, true, true, true, false] rfl rfl (any_of rfl (by kernel_rfl)) (fun _ _ _ h => h) (Or.inl ⟨by rfl, ?_⟩) ?_ ?_
        rotate_left
        · intro w'
          go_simp
          with_reducible rfl
        rotate_left
        · simp only [Act.put, List.setIfInBounds_toArray, List.set_cons_zero, List.set_cons_succ, i64_w, i32_w]
          rfl
        refine last_ (i := 10) (N := none) #[true, true, true, true, true, true, true, true, true, true, true] rfl rfl (one_of rfl (by kernel_rfl)) (by decide) (fun K hK => ?_)
        have hs2 : w2.cell? ⟨w.heap.size + 1 + 1 + 1, 2, none⟩ = some u := (blk_cell gO2 2).trans rfl
        have hf2 := blk_frozen gO2 2
        refine skip_ (w1 := ?_) (by rfl) rfl ?_ ?_
        rotate_left
        · go_simp
          rfl
        refine hK.out _ _ ?_
        clear hK K
        refine done_ (done_of rfl (by kernel_rfl)) ?_
        clear hs2 hf2
        have hL3 := Kd.R_far hL2 (p := ⟨w.heap.size + 1 + 1 + 1, 2, none⟩) (fun k hk e => by have := hk.1; have e' : k = w.heap.size + 1 + 1 + 1 := e; omega) (.slice Au (j + 1) Acu)
        have hU3 := Kd.R_far hU1 (p := ⟨w.heap.size + 1 + 1 + 1, 2, none⟩) (fun k hk e => by have e' : k = w.heap.size + 1 + 1 + 1 := e; omega) (.slice Au (j + 1) Acu)
        have hV3 := Kd.R_far hV2 (p := ⟨w.heap.size + 1 + 1 + 1, 2, none⟩) (fun k hk e => by have := hk.1; have e' : k = w.heap.size + 1 + 1 + 1 := e; omega) (.slice Au (j + 1) Acu)
        have gO3 := blk_put (cs' := #[.int .i64 idx, v, .slice Au (j + 1) Acu]) gO2 2 (.slice Au (j + 1) Acu) rfl
        have gR3 := blk_far gR2 (p := ⟨w.heap.size + 1 + 1 + 1, 2, none⟩) (by show w.heap.size + 1 + 1 ≠ w.heap.size + 1 + 1 + 1; omega) (.slice Au (j + 1) Acu)
        have gD3 := (Below.heap_setCell w2 ⟨w.heap.size + 1 + 1 + 1, 2, none⟩ (.slice Au (j + 1) Acu) D (by show D ≠ w.heap.size + 1 + 1 + 1; omega)).trans gD2
        have hB3 := hB2.setCell (p := ⟨w.heap.size + 1 + 1 + 1, 2, none⟩) (by show w.heap.size ≤ w.heap.size + 1 + 1 + 1; omega) (.slice Au (j + 1) Acu)
        have hN3 : N1 ≤ (w2.setCell ⟨w.heap.size + 1 + 1 + 1, 2, none⟩ (.slice Au (j + 1) Acu)).heap.size := Nat.le_trans hN2 (KeepsWalks.setCell _ _ _).size
        clear hL2 hU1 hV2 gO2 gR2 gD2 hB2 hN2
        generalize w2.setCell ⟨w.heap.size + 1 + 1 + 1, 2, none⟩ (.slice Au (j + 1) Acu) = W3 at *
        have HA := Lib.hid (above_lvl (tx a0) al Ac n m j W3 hL3 HX.out.2.2.2.1 (by have := HX.out.2.2.2.1; omega) (by have := HX.out.2.2.2.1; omega) (Glob.below hG hB3))
        go_wp2_with (go_at_call 49; refine HA.out.mono ?_; rintro e w4 ⟨v4, rfl, hL4, hb4⟩)
        clear HA
        obtain ⟨hx, hsx, hm2, hn, hlen, hLL, hLC⟩ := HX.out
        have hp1 : pathL (tx a0) idx j ++ [t66] = pathL (tx a0) idx (j + 1) := by
          rw [← HT66.out]
          unfold rdOf pathL
          rw [Int.toNat_natCast, lvl_get _ _ _ _ hs0, List.range_succ, List.map_append, ← hsx, ← hx]; rfl
        have hm3 : 2 ^ (hgt - (j + 1)) = m := by
          have e : 2 ^ (hgt - j) = 2 * 2 ^ (hgt - (j + 1)) := by rw [show hgt - j = hgt - (j + 1) + 1 by omega, Nat.pow_succ, Nat.mul_comm]
          omega
        rw [hp1] at hU3
        have hU4 := Kd.R_below hU3 hb4
        refine ⟨⟨j + 1, .slice Au (j + 1) Acu, by omega, ?_, ?_, hU4, blk_below gO3 hb4, blk_below gR3 hb4, blk_below gD3 hb4, Kd.R_below hV3 hb4, hB3.trans (hb4.mono (by have := hB3.size; omega)), Nat.le_trans hN3 hb4.size⟩, ?_⟩
        · rw [Nat.pow_succ, ← Nat.div_div_eq_div_mul, hx]; rfl
        · rw [hm3]
          refine Kd.R_mono (Kd.R_lower (Kd.R_bound hL4) (by omega)) (fun k hk => ⟨by omega, fun e => ?_⟩)
          have := Kd.R_lt hU3 k e.symm
          omega
        · obtain ⟨A4, c4, rfl⟩ := Kd.R_slice hL4
          show (lvl (tx a0) m (j + 1)).length < n
          rw [lvl_len]; omega
      · obtain rfl : j = hgt := by omega
        have h1 : 2 ^ (j - j) = 1 := by rw [Nat.sub_self]
        rw [h1] at hL hLC hlen hLL ⊢
        clear hP hpow h1 hLL hlen hi hp2
        obtain ⟨Au, Acu, rfl⟩ := Kd.R_slice hU
        obtain ⟨Av, Acv, rfl⟩ := Kd.R_slice hV
        have hc0 : wr.cell? ⟨w.heap.size + 1 + 1 + 1, 0, none⟩ = some (.int .i64 idx) := (blk_cell gO 0).trans rfl
        have hc1 : wr.cell? ⟨w.heap.size + 1 + 1 + 1, 1, none⟩ = some (.slice Av (sigL (tx a0) idx (tx msg)).length Acv) := (blk_cell gO 1).trans rfl
        have hc2 : wr.cell? ⟨w.heap.size + 1 + 1 + 1, 2, none⟩ = some (.slice Au (pathL (tx a0) idx j).length Acu) := (blk_cell gO 2).trans rfl
        have hr0 : wr.cell? ⟨w.heap.size + 1 + 1, 0, none⟩ = some (.int .i64 0) := (blk_cell gR 0).trans rfl
        have hr1 : wr.cell? ⟨w.heap.size + 1 + 1, 1, none⟩ = some (.slice none 0 0) := (blk_cell gR 1).trans rfl
        have hr2 : wr.cell? ⟨w.heap.size + 1 + 1, 2, none⟩ = some (.slice none 0 0) := (blk_cell gR 2).trans rfl
        have hf0 := blk_frozen gR 0
        have hf1 := blk_frozen gR 1
        have hf2 := blk_frozen gR 2
        go_wp2
        clear hc0 hc1 hc2 hr0 hr1 hr2 hf0 hf1 hf2
        refine sign_end (gR := w.heap.size + 1 + 1) ?_ ?_ (by omega) (by omega) (by omega) (by omega) hU hV gR gD hB
        · rfl
        · rfl
end Go.Proofs.YteleheamnighkaaDoor
end
