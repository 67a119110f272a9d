/- Walks: the texts ShelfT BldT Sort Y1 Y2 Y3 Y4 Y5 Y6 Y7 Y8 as one text. -/
import Derived.Shelf.Strings.Builder1
import Derived.Shelf.Strings.Builder2
import Derived.Shelf.Strings.Trim
import Derived.Shelf.Strings.Search3
import Derived.Shelf.Strings.Prefix
import Derived.Shelf.Strings.Repeat
import Derived.Test.YtlfmpgfobkmgfaaGreatDoorProg
import Derived.Shelf.SlSortCmp.NoneTotal
import Derived.Test.YtlfmpgfobkmgfaaGreatDoorZC
import Derived.Shelf.Strings.SlTrimAscii
namespace Go.Proofs
open Go.Shelf
def Tryz.lays169_ren : Go.Shelf.Ren := ⟨fun | 169 => 103 | n => n, fun | 70 => 104 | 9 => 9 | 0 => 0 | 72 => 106 | 37 => 85 | 127 => 141 | 3 => 3 | 5 => 5 | n => n, fun | n => n⟩
theorem Tryz.lays169 : Go.Proofs.Lays.n169 Tryz.prog Tryz.lays169_ren := {
  mixed := by kernel_rfl
  f169 := Tryz.func103.trans (congrArg some (by kernel_rfl))
  t0 := Tryz.underlying0
  a0 := Tryz.isAgg0
  z0 := Tryz.sizeOf0
  v0 := Tryz.zeroValue0
  t3 := Tryz.underlying3
  a3 := Tryz.isAgg3
  z3 := Tryz.sizeOf3
  v3 := Tryz.zeroValue3
  t9 := Tryz.underlying9
  a9 := Tryz.isAgg9
  z9 := Tryz.sizeOf9
  v9 := Tryz.zeroValue9
  t37 := Tryz.underlying85
  a37 := Tryz.isAgg85
  z37 := Tryz.sizeOf85
  v37 := Tryz.zeroValue85
  t70 := Tryz.underlying104
  a70 := Tryz.isAgg104
  z70 := Tryz.sizeOf104
  v70 := Tryz.zeroValue104
  t72 := Tryz.underlying106
  a72 := Tryz.isAgg106
  z72 := Tryz.sizeOf106
  v72 := Tryz.zeroValue106
  t127 := Tryz.underlying141
  a127 := Tryz.isAgg141
  z127 := Tryz.sizeOf141
  v127 := Tryz.zeroValue141 }
theorem Tryz.Builder_Extra_169 : Builder.Extra Tryz.prog Tryz.lays169_ren := {
  sizeBuilder := by kernel_rfl
  liesBuilder := by kernel_rfl
  t5 := Tryz.underlying5
  a5 := Tryz.isAgg5
  z5 := Tryz.sizeOf5
  v5 := Tryz.zeroValue5
  infoByte := by kernel_rfl
  cellsByte := by kernel_rfl
  sizeByte := by kernel_rfl
  neB5 := by decide }
set_option linter.unusedVariables false
open Go.RowKit in
theorem Tryz.Builder_String_any (B b : Nat) (l : List UInt8) (w : World) (h : Lib.IsBuilder 106 5 B b (Lib.byteCells l) w) (hBw : B ≤ w.heap.size) :
    Calls Tryz.prog 103 #[.pointer (some ⟨b, 0, none⟩)] w fun e w' => e = .returned (.string ⟨l.toArray⟩) ∧ Below B w w' := Any.Builder_String_any Tryz.lays169 Tryz.Builder_Extra_169 B b l w h hBw
def Tryz.lays160_ren : Go.Shelf.Ren := ⟨fun | 160 => 88 | 232 => 117 | 231 => 116 | 227 => 118 | 234 => 120 | 233 => 119 | 236 => 122 | 235 => 121 | 228 => 135 | 271 => 138 | 151 => 137 | 197 => 136 | 120 => 145 | 152 => 144 | 260 => 143 | 137 => 150 | 119 => 151 | 224 => 148 | 225 => 147 | 217 => 146 | 266 => 152 | n => n, fun | 9 => 9 | 4 => 4 | 3 => 3 | 5 => 5 | 117 => 129 | 116 => 128 | 0 => 0 | 124 => 132 | 21 => 21 | 105 => 149 | 46 => 73 | 119 => 161 | 139 => 164 | 138 => 163 | n => n, fun | 3 => 2 | 4 => 3 | n => n⟩
theorem Tryz.lays160 : Go.Proofs.Lays.n160 Tryz.prog Tryz.lays160_ren := {
  mixed := by kernel_rfl
  f119 := Tryz.func151.trans (congrArg some (by kernel_rfl))
  f120 := Tryz.func145.trans (congrArg some (by kernel_rfl))
  f137 := Tryz.func150.trans (congrArg some (by kernel_rfl))
  f151 := Tryz.func137.trans (congrArg some (by kernel_rfl))
  f152 := Tryz.func144.trans (congrArg some (by kernel_rfl))
  f160 := Tryz.func88.trans (congrArg some (by kernel_rfl))
  f197 := Tryz.func136.trans (congrArg some (by kernel_rfl))
  f217 := Tryz.func146.trans (congrArg some (by kernel_rfl))
  f224 := Tryz.func148.trans (congrArg some (by kernel_rfl))
  f225 := Tryz.func147.trans (congrArg some (by kernel_rfl))
  f227 := Tryz.func118.trans (congrArg some (by kernel_rfl))
  f228 := Tryz.func135.trans (congrArg some (by kernel_rfl))
  f231 := Tryz.func116.trans (congrArg some (by kernel_rfl))
  f232 := Tryz.func117.trans (congrArg some (by kernel_rfl))
  f233 := Tryz.func119.trans (congrArg some (by kernel_rfl))
  f234 := Tryz.func120.trans (congrArg some (by kernel_rfl))
  f235 := Tryz.func121.trans (congrArg some (by kernel_rfl))
  f236 := Tryz.func122.trans (congrArg some (by kernel_rfl))
  f260 := Tryz.func143.trans (congrArg some (by kernel_rfl))
  f266 := Tryz.func152.trans (congrArg some (by kernel_rfl))
  f271 := Tryz.func138.trans (congrArg some (by kernel_rfl))
  t0 := Tryz.underlying0
  a0 := Tryz.isAgg0
  z0 := Tryz.sizeOf0
  v0 := Tryz.zeroValue0
  t3 := Tryz.underlying3
  a3 := Tryz.isAgg3
  z3 := Tryz.sizeOf3
  v3 := Tryz.zeroValue3
  t4 := Tryz.underlying4
  a4 := Tryz.isAgg4
  z4 := Tryz.sizeOf4
  v4 := Tryz.zeroValue4
  t5 := Tryz.underlying5
  a5 := Tryz.isAgg5
  z5 := Tryz.sizeOf5
  v5 := Tryz.zeroValue5
  t9 := Tryz.underlying9
  a9 := Tryz.isAgg9
  z9 := Tryz.sizeOf9
  v9 := Tryz.zeroValue9
  t21 := Tryz.underlying21
  a21 := Tryz.isAgg21
  z21 := Tryz.sizeOf21
  v21 := Tryz.zeroValue21
  t46 := Tryz.underlying73
  a46 := Tryz.isAgg73
  z46 := Tryz.sizeOf73
  v46 := Tryz.zeroValue73
  t105 := Tryz.underlying149
  a105 := Tryz.isAgg149
  z105 := Tryz.sizeOf149
  v105 := Tryz.zeroValue149
  t116 := Tryz.underlying128
  a116 := Tryz.isAgg128
  z116 := Tryz.sizeOf128
  t117 := Tryz.underlying129
  a117 := Tryz.isAgg129
  z117 := Tryz.sizeOf129
  v117 := Tryz.zeroValue129
  t119 := Tryz.underlying161
  a119 := Tryz.isAgg161
  z119 := Tryz.sizeOf161
  t124 := Tryz.underlying132
  a124 := Tryz.isAgg132
  z124 := Tryz.sizeOf132
  v124 := Tryz.zeroValue132
  t138 := Tryz.underlying163
  a138 := Tryz.isAgg163
  z138 := Tryz.sizeOf163
  v138 := Tryz.zeroValue163
  t139 := Tryz.underlying164
  a139 := Tryz.isAgg164
  z139 := Tryz.sizeOf164
  v139 := Tryz.zeroValue164
  g3 := by kernel_rfl
  g4 := by kernel_rfl }
def Tryz.lays144_ren : Go.Shelf.Ren := ⟨fun | 144 => 96 | 143 => 125 | 219 => 139 | 217 => 146 | 225 => 147 | 224 => 148 | 267 => 149 | 266 => 152 | 314 => 153 | n => n, fun | 9 => 9 | 4 => 4 | 3 => 3 | 5 => 5 | 46 => 73 | 146 => 137 | 51 => 123 | n => n, fun | 1 => 1 | n => n⟩
theorem Tryz.lays144 : Go.Proofs.Lays.n144 Tryz.prog Tryz.lays144_ren := {
  mixed := by kernel_rfl
  f143 := Tryz.func125.trans (congrArg some (by kernel_rfl))
  f144 := Tryz.func96.trans (congrArg some (by kernel_rfl))
  f217 := Tryz.func146.trans (congrArg some (by kernel_rfl))
  f219 := Tryz.func139.trans (congrArg some (by kernel_rfl))
  f224 := Tryz.func148.trans (congrArg some (by kernel_rfl))
  f225 := Tryz.func147.trans (congrArg some (by kernel_rfl))
  f266 := Tryz.func152.trans (congrArg some (by kernel_rfl))
  f267 := Tryz.func149.trans (congrArg some (by kernel_rfl))
  f314 := Tryz.func153.trans (congrArg some (by kernel_rfl))
  t3 := Tryz.underlying3
  a3 := Tryz.isAgg3
  z3 := Tryz.sizeOf3
  v3 := Tryz.zeroValue3
  t4 := Tryz.underlying4
  a4 := Tryz.isAgg4
  z4 := Tryz.sizeOf4
  v4 := Tryz.zeroValue4
  t5 := Tryz.underlying5
  a5 := Tryz.isAgg5
  z5 := Tryz.sizeOf5
  v5 := Tryz.zeroValue5
  t9 := Tryz.underlying9
  a9 := Tryz.isAgg9
  z9 := Tryz.sizeOf9
  v9 := Tryz.zeroValue9
  t46 := Tryz.underlying73
  a46 := Tryz.isAgg73
  z46 := Tryz.sizeOf73
  v46 := Tryz.zeroValue73
  t51 := Tryz.underlying123
  a51 := Tryz.isAgg123
  z51 := Tryz.sizeOf123
  v51 := Tryz.zeroValue123
  t146 := Tryz.underlying137
  a146 := Tryz.isAgg137
  z146 := Tryz.sizeOf137
  v146 := Tryz.zeroValue137
  g1 := by kernel_rfl }
open Go.RowKit Go.Lib in
theorem Tryz.strings_Contains_one (s : ByteArray) (c : UInt8) (w : World) :
    Calls Tryz.prog 96 #[.string s, .string ⟨#[c]⟩] w fun e w' => e = .returned (.bool (decide (0 ≤ Lib.indexByte s.data.toList c))) ∧ w' = w := Any.strings_Contains_one Tryz.lays144 s c w
def Tryz.lays99_ren : Go.Shelf.Ren := ⟨fun | 99 => 80 | 206 => 104 | n => n, fun | 9 => 9 | 4 => 4 | 3 => 3 | n => n, fun | n => n⟩
theorem Tryz.lays99 : Go.Proofs.Lays.n99 Tryz.prog Tryz.lays99_ren := {
  mixed := by kernel_rfl
  f99 := Tryz.func80.trans (congrArg some (by kernel_rfl))
  f206 := Tryz.func104.trans (congrArg some (by kernel_rfl))
  t3 := Tryz.underlying3
  a3 := Tryz.isAgg3
  z3 := Tryz.sizeOf3
  v3 := Tryz.zeroValue3
  t4 := Tryz.underlying4
  a4 := Tryz.isAgg4
  z4 := Tryz.sizeOf4
  v4 := Tryz.zeroValue4
  t9 := Tryz.underlying9
  a9 := Tryz.isAgg9
  z9 := Tryz.sizeOf9
  v9 := Tryz.zeroValue9 }
open Go.RowKit Go.Lib in
theorem Tryz.strings_HasPrefix (s p : ByteArray) (w : World) :
    Calls Tryz.prog 80 #[.string s, .string p] w fun e w' => e = .returned (.bool (Lib.hasPrefix s.data.toList p.data.toList)) ∧ w' = w := Any.strings_HasPrefix Tryz.lays99 s p w
def Tryz.lays105_ren : Go.Shelf.Ren := ⟨fun | 105 => 77 | 212 => 99 | 99 => 80 | 165 => 100 | 166 => 101 | 170 => 102 | 169 => 103 | 263 => 126 | 264 => 127 | 206 => 104 | 240 => 128 | 241 => 129 | 276 => 140 | 277 => 141 | n => n, fun | 9 => 9 | 3 => 3 | 4 => 4 | 20 => 20 | 0 => 0 | 46 => 73 | 109 => 102 | 5 => 5 | 72 => 106 | 76 => 110 | 51 => 123 | 146 => 137 | 53 => 125 | 148 => 139 | 70 => 104 | 37 => 85 | 75 => 109 | 127 => 141 | 164 => 152 | 80 => 87 | n => n, fun | n => n⟩
theorem Tryz.lays105 : Go.Proofs.Lays.n105 Tryz.prog Tryz.lays105_ren := {
  mixed := by kernel_rfl
  f99 := Tryz.func80.trans (congrArg some (by kernel_rfl))
  f105 := Tryz.func77.trans (congrArg some (by kernel_rfl))
  f165 := Tryz.func100.trans (congrArg some (by kernel_rfl))
  f166 := Tryz.func101.trans (congrArg some (by kernel_rfl))
  f169 := Tryz.func103.trans (congrArg some (by kernel_rfl))
  f170 := Tryz.func102.trans (congrArg some (by kernel_rfl))
  f206 := Tryz.func104.trans (congrArg some (by kernel_rfl))
  f212 := Tryz.func99.trans (congrArg some (by kernel_rfl))
  f240 := Tryz.func128.trans (congrArg some (by kernel_rfl))
  f241 := Tryz.func129.trans (congrArg some (by kernel_rfl))
  f263 := Tryz.func126.trans (congrArg some (by kernel_rfl))
  f264 := Tryz.func127.trans (congrArg some (by kernel_rfl))
  f276 := Tryz.func140.trans (congrArg some (by kernel_rfl))
  f277 := Tryz.func141.trans (congrArg some (by kernel_rfl))
  t0 := Tryz.underlying0
  a0 := Tryz.isAgg0
  z0 := Tryz.sizeOf0
  v0 := Tryz.zeroValue0
  t3 := Tryz.underlying3
  a3 := Tryz.isAgg3
  z3 := Tryz.sizeOf3
  v3 := Tryz.zeroValue3
  t4 := Tryz.underlying4
  a4 := Tryz.isAgg4
  z4 := Tryz.sizeOf4
  v4 := Tryz.zeroValue4
  t5 := Tryz.underlying5
  a5 := Tryz.isAgg5
  z5 := Tryz.sizeOf5
  v5 := Tryz.zeroValue5
  t9 := Tryz.underlying9
  a9 := Tryz.isAgg9
  z9 := Tryz.sizeOf9
  v9 := Tryz.zeroValue9
  t20 := Tryz.underlying20
  a20 := Tryz.isAgg20
  z20 := Tryz.sizeOf20
  v20 := Tryz.zeroValue20
  t37 := Tryz.underlying85
  a37 := Tryz.isAgg85
  z37 := Tryz.sizeOf85
  v37 := Tryz.zeroValue85
  t46 := Tryz.underlying73
  a46 := Tryz.isAgg73
  z46 := Tryz.sizeOf73
  v46 := Tryz.zeroValue73
  t51 := Tryz.underlying123
  a51 := Tryz.isAgg123
  z51 := Tryz.sizeOf123
  v51 := Tryz.zeroValue123
  t53 := Tryz.underlying125
  a53 := Tryz.isAgg125
  z53 := Tryz.sizeOf125
  v53 := Tryz.zeroValue125
  t70 := Tryz.underlying104
  a70 := Tryz.isAgg104
  z70 := Tryz.sizeOf104
  v70 := Tryz.zeroValue104
  t72 := Tryz.underlying106
  a72 := Tryz.isAgg106
  z72 := Tryz.sizeOf106
  v72 := Tryz.zeroValue106
  t75 := Tryz.underlying109
  a75 := Tryz.isAgg109
  z75 := Tryz.sizeOf109
  v75 := Tryz.zeroValue109
  t76 := Tryz.underlying110
  a76 := Tryz.isAgg110
  z76 := Tryz.sizeOf110
  v76 := Tryz.zeroValue110
  t109 := Tryz.underlying102
  a109 := Tryz.isAgg102
  z109 := Tryz.sizeOf102
  v109 := Tryz.zeroValue102
  t127 := Tryz.underlying141
  a127 := Tryz.isAgg141
  z127 := Tryz.sizeOf141
  v127 := Tryz.zeroValue141
  t146 := Tryz.underlying137
  a146 := Tryz.isAgg137
  z146 := Tryz.sizeOf137
  v146 := Tryz.zeroValue137
  t148 := Tryz.underlying139
  a148 := Tryz.isAgg139
  z148 := Tryz.sizeOf139
  v148 := Tryz.zeroValue139
  t164 := Tryz.underlying152
  a164 := Tryz.isAgg152
  z164 := Tryz.sizeOf152
  v164 := Tryz.zeroValue152 }
theorem Tryz.Builder_Extra_105 : Builder.Extra Tryz.prog Tryz.lays105_ren := {
  sizeBuilder := by kernel_rfl
  liesBuilder := by kernel_rfl
  t5 := Tryz.underlying5
  a5 := Tryz.isAgg5
  z5 := Tryz.sizeOf5
  v5 := Tryz.zeroValue5
  infoByte := by kernel_rfl
  cellsByte := by kernel_rfl
  sizeByte := by kernel_rfl
  neB5 := by decide }
open Go.RowKit Go.Lib in
theorem Tryz.strings_Repeat (s : ByteArray) (c : Nat) (w : World) (hc : c ≤ 9223372036854775807) (hlen : s.size * c ≤ 140737488355328) :
    Calls Tryz.prog 77 #[.string s, .int .i64 c] w fun e w' => e = .returned (.string ⟨(Lib.repeatL s.data.toList c).toArray⟩) ∧ Below w.heap.size w w' := Any.strings_Repeat Tryz.lays105 Tryz.Builder_Extra_105 s c w hc hlen
end Go.Proofs
namespace Go.Proofs.YtlfmpgfobkmgfaaGreatDoor
open Go.Shelf
def wsRen : Go.Shelf.Ren := ⟨fun | 166 => 101 | 240 => 128 | 276 => 140 | n => n, fun | 0 => 0 | 3 => 3 | 4 => 4 | 5 => 5 | 9 => 9 | 20 => 20 | 37 => 85 | 70 => 104 | 72 => 106 | 75 => 109 | 80 => 87 | 164 => 152 | n => n, fun | n => n⟩
theorem wsLays : Go.Proofs.Lays.n166 Tryz.prog wsRen := {
  mixed := by kernel_rfl
  f166 := Tryz.func101.trans (congrArg some (by kernel_rfl))
  f240 := Tryz.func128.trans (congrArg some (by kernel_rfl))
  f276 := Tryz.func140.trans (congrArg some (by kernel_rfl))
  t0 := Tryz.underlying0
  a0 := Tryz.isAgg0
  z0 := Tryz.sizeOf0
  v0 := Tryz.zeroValue0
  t3 := Tryz.underlying3
  a3 := Tryz.isAgg3
  z3 := Tryz.sizeOf3
  v3 := Tryz.zeroValue3
  t4 := Tryz.underlying4
  a4 := Tryz.isAgg4
  z4 := Tryz.sizeOf4
  v4 := Tryz.zeroValue4
  t9 := Tryz.underlying9
  a9 := Tryz.isAgg9
  z9 := Tryz.sizeOf9
  v9 := Tryz.zeroValue9
  t20 := Tryz.underlying20
  a20 := Tryz.isAgg20
  z20 := Tryz.sizeOf20
  v20 := Tryz.zeroValue20
  t37 := Tryz.underlying85
  a37 := Tryz.isAgg85
  z37 := Tryz.sizeOf85
  v37 := Tryz.zeroValue85
  t70 := Tryz.underlying104
  a70 := Tryz.isAgg104
  z70 := Tryz.sizeOf104
  v70 := Tryz.zeroValue104
  t72 := Tryz.underlying106
  a72 := Tryz.isAgg106
  z72 := Tryz.sizeOf106
  v72 := Tryz.zeroValue106
  t75 := Tryz.underlying109
  a75 := Tryz.isAgg109
  z75 := Tryz.sizeOf109
  v75 := Tryz.zeroValue109
  t164 := Tryz.underlying152
  a164 := Tryz.isAgg152
  z164 := Tryz.sizeOf152
  v164 := Tryz.zeroValue152 }
theorem wsExtra : Builder.Extra Tryz.prog wsRen := {
  sizeBuilder := by kernel_rfl
  liesBuilder := by kernel_rfl
  t5 := Tryz.underlying5
  a5 := Tryz.isAgg5
  z5 := Tryz.sizeOf5
  v5 := Tryz.zeroValue5
  infoByte := by kernel_rfl
  cellsByte := by kernel_rfl
  sizeByte := by kernel_rfl
  neB5 := by decide }
set_option linter.unusedVariables false
open Go.RowKit in
theorem WriteString_any (B b : Nat) (bs : List Value) (s : ByteArray) (w : World) (h : Lib.IsBuilder 106 5 B b bs w) (hlen : bs.length + s.size ≤ 140737488355328) (hBw : B ≤ w.heap.size) :
    Calls Tryz.prog 101 #[.pointer (some ⟨b, 0, none⟩), .string s] w fun e w' => e = .returned (.tuple #[.int .i64 s.size, .nilIface]) ∧ (Lib.BuilderAt 106 5 B b (.pointer (some ⟨b, 0, none⟩)) (bs ++ Lib.strCells s) w' ∧ Below B w w') :=
  Any.Builder_WriteString wsLays wsExtra B b bs s w h hlen hBw
end Go.Proofs.YtlfmpgfobkmgfaaGreatDoor
namespace Go.Proofs
open Go.Shelf
def Tryz.sortMark_ren : Go.Shelf.Ren := ⟨fun | 6 => 51 | 15 => 82 | 14 => 81 | 28 => 113 | 29 => 114 | 20 => 105 | 21 => 106 | 22 => 107 | 23 => 108 | 24 => 109 | 25 => 110 | 26 => 111 | 27 => 112 | 46 => 130 | 47 => 131 | 48 => 132 | 49 => 133 | 50 => 134 | 57 => 142 | n => n, fun | 22 => 40 | 24 => 49 | 25 => 77 | 3 => 3 | 39 => 73 | 0 => 0 | 53 => 123 | 55 => 125 | 4 => 4 | 46 => 116 | 45 => 115 | 50 => 120 | 5 => 5 | 9 => 9 | 66 => 142 | 70 => 146 | 76 => 155 | 77 => 156 | n => n, fun | n => n⟩
theorem Tryz.sortMark : Go.Proofs.SlLaysF0.n6 Tryz.prog Tryz.sortMark_ren := {
  mixed := by kernel_rfl
  f6 := ⟨Tryz.f51.name, by decide, Tryz.func51.trans (congrArg some (by kernel_rfl))⟩
  f14 := ⟨Tryz.f81.name, by decide, Tryz.func81.trans (congrArg some (by kernel_rfl))⟩
  f15 := Tryz.func82.trans (congrArg some (by kernel_rfl))
  f20 := ⟨Tryz.f105.name, by decide, Tryz.func105.trans (congrArg some (by kernel_rfl))⟩
  f21 := ⟨Tryz.f106.name, by decide, Tryz.func106.trans (congrArg some (by kernel_rfl))⟩
  f22 := ⟨Tryz.f107.name, by decide, Tryz.func107.trans (congrArg some (by kernel_rfl))⟩
  f23 := ⟨Tryz.f108.name, by decide, Tryz.func108.trans (congrArg some (by kernel_rfl))⟩
  f24 := ⟨Tryz.f109.name, by decide, Tryz.func109.trans (congrArg some (by kernel_rfl))⟩
  f25 := ⟨Tryz.f110.name, by decide, Tryz.func110.trans (congrArg some (by kernel_rfl))⟩
  f26 := ⟨Tryz.f111.name, by decide, Tryz.func111.trans (congrArg some (by kernel_rfl))⟩
  f27 := ⟨Tryz.f112.name, by decide, Tryz.func112.trans (congrArg some (by kernel_rfl))⟩
  f28 := Tryz.func113.trans (congrArg some (by kernel_rfl))
  f29 := Tryz.func114.trans (congrArg some (by kernel_rfl))
  f46 := ⟨Tryz.f130.name, by decide, Tryz.func130.trans (congrArg some (by kernel_rfl))⟩
  f47 := Tryz.func131.trans (congrArg some (by kernel_rfl))
  f48 := Tryz.func132.trans (congrArg some (by kernel_rfl))
  f49 := ⟨Tryz.f133.name, by decide, Tryz.func133.trans (congrArg some (by kernel_rfl))⟩
  f50 := ⟨Tryz.f134.name, by decide, Tryz.func134.trans (congrArg some (by kernel_rfl))⟩
  f57 := ⟨Tryz.f142.name, by decide, Tryz.func142.trans (congrArg some (by kernel_rfl))⟩
  t0 := Tryz.underlying0
  a0 := Tryz.isAgg0
  z0 := Tryz.sizeOf0
  v0 := Tryz.zeroValue0
  t3 := Tryz.underlying3
  a3 := Tryz.isAgg3
  z3 := Tryz.sizeOf3
  v3 := Tryz.zeroValue3
  t4 := Tryz.underlying4
  a4 := Tryz.isAgg4
  z4 := Tryz.sizeOf4
  v4 := Tryz.zeroValue4
  t5 := Tryz.underlying5
  a5 := Tryz.isAgg5
  z5 := Tryz.sizeOf5
  v5 := Tryz.zeroValue5
  t9 := Tryz.underlying9
  a9 := Tryz.isAgg9
  z9 := Tryz.sizeOf9
  v9 := Tryz.zeroValue9
  t22 := Tryz.underlying40
  a22 := Tryz.isAgg40
  z22 := Tryz.sizeOf40
  v22 := Tryz.zeroValue40
  t25 := Tryz.underlying77
  a25 := Tryz.isAgg77
  z25 := Tryz.sizeOf77
  v25 := Tryz.zeroValue77
  t39 := Tryz.underlying73
  a39 := Tryz.isAgg73
  z39 := Tryz.sizeOf73
  v39 := Tryz.zeroValue73
  t45 := Tryz.underlying115
  a45 := Tryz.isAgg115
  z45 := Tryz.sizeOf115
  v45 := Tryz.zeroValue115
  t46 := Tryz.underlying116
  a46 := Tryz.isAgg116
  z46 := Tryz.sizeOf116
  v46 := Tryz.zeroValue116
  t50 := Tryz.underlying120
  a50 := Tryz.isAgg120
  z50 := Tryz.sizeOf120
  v50 := Tryz.zeroValue120
  t53 := Tryz.underlying123
  a53 := Tryz.isAgg123
  z53 := Tryz.sizeOf123
  v53 := Tryz.zeroValue123
  t55 := Tryz.underlying125
  a55 := Tryz.isAgg125
  z55 := Tryz.sizeOf125
  v55 := Tryz.zeroValue125
  t66 := Tryz.underlying142
  a66 := Tryz.isAgg142
  z66 := Tryz.sizeOf142
  v66 := Tryz.zeroValue142
  t70 := Tryz.underlying146
  a70 := Tryz.isAgg146
  z70 := Tryz.sizeOf146
  v70 := Tryz.zeroValue146
  t76 := Tryz.underlying155
  a76 := Tryz.isAgg155
  z76 := Tryz.sizeOf155
  v76 := Tryz.zeroValue155
  t77 := Tryz.underlying156
  a77 := Tryz.isAgg156
  z77 := Tryz.sizeOf156
  v77 := Tryz.zeroValue156 }
end Go.Proofs
namespace Go.Proofs.YtlfmpgfobkmgfaaGreatDoor
open Go.RowKit
set_option linter.unusedVariables false
set_option linter.unusedSimpArgs false

section
variable {P : Program} {w : World} {base : Nat} {e : TypeId}
theorem step_appL {ops : Array Oper} {o : Oper} {a : Act} {K : Act → World → Prop} {Q : Exit → Act → World → Prop} {E0 : Prop} (hgd : o.guard = none) (s x : Operand) (t : TypeId)
    (ho : o.op = .call { callee := .builtin .append, args := #[s, x], argTypes := #[t, t] }) (E : Elt P t e 1 1 (.int .u8 0))
    (v : Value) (l : List UInt8) (hsv : a.eval s = v) (hown : OwnB w base e v l) (cs : Array Value) (te : TypeId) (news : List UInt8) (n c : Nat) (hx : a.eval x = .slice (some ⟨w.heap.size, 0, none⟩) n c)
    (hcs : cs.toList = bcells news) (hn : n = news.length) (hsz : l.length + news.length ≤ 1000000000) (hbase : base ≤ w.heap.size)
    (h : ∀ v' w', OwnB w' base e v' (l ++ news) → Below base w w' → K (a.put o.dst v') w') :
    if Region.wanted o (yielded ops a.tmps) = true then Oper.wp P o a (w.alloc (.cells cs te)) K Q else E0 := by
  subst hn
  have hw : Region.wanted o (yielded ops a.tmps) = true := by simp [Region.wanted, hgd]
  rw [if_pos hw]
  have hcl : cs.size = news.length := by rw [← Array.length_toList, hcs, bcells_length]
  have hsrc : Src P 1 t (.slice (some ⟨w.heap.size, 0, none⟩) news.length c) news.length (bcells news) (w.alloc (.cells cs te)) := by
    rw [← hcs]
    refine Src.lit E.ht w cs te news.length c (by omega) ?_
    rw [hcs]
    exact bcells_one news
  obtain ⟨v', w', hr, h2, h3, h5⟩ := run_append_src (P := P) (w.alloc (.cells cs te)) base t t o.type e (.int .u8 0) 1 1 E v l.length (bcells l) (World.ownsRow.alloc hown _) _ news.length (bcells news) hsrc (by unfold maxLen; omega) (by omega) (by rw [World.size_alloc]; omega)
  unfold Oper.wp execOp
  simp only [ho, resolve, invoke, builtin, Sem.run_bind, Sem.run_pure, Result.andThen_ok, List.map_toArray, List.map_cons, List.map_nil, hsv, hx, hr]
  refine h _ _ ?_ ((Below.refl base w).alloc hbase _ |>.trans (below_of_own (World.ownsRow.alloc hown _) (by rw [World.size_alloc]; omega) h3))
  unfold OwnB
  rw [List.length_append, show bcells (l ++ news) = bcells l ++ bcells news by simp [bcells]]
  exact h2
end
/-- An empty row of bytes with room. -/
theorem mk0 (c : Nat) (hc : c ≤ 1000000) (W : World) : (Instr.makeSlice 85 (.int .i64 0) (.int .i64 (c : Int))).run Tryz.prog W = .ok (.slice (some ⟨W.heap.size, 0, none⟩) 0 c) (W.alloc (.cells (madeCells #[.int .u8 0] (c * 1)) 5)) := by
  obtain ⟨ht, ⟨i, hi, hz, hsize, hby⟩, _, _⟩ := eltB
  have h := run_make_rowN 85 5 i (.int .u8 0) ht hi hz .i64 .i64 0 c (Nat.zero_le _) (by rw [hby]; omega) (by omega) W
  rw [hsize] at h
  exact h
theorem own0 (c : Nat) (hc : c ≤ 1000000) (W : World) : OwnB (W.alloc (.cells (madeCells #[.int .u8 0] (c * 1)) 5)) W.heap.size 5 (.slice (some ⟨W.heap.size, 0, none⟩) 0 c) [] :=
  World.ownsRow_made W _ c (Nat.le_refl _) (by unfold maxLen; omega) (by simp [madeCells])

set_option maxHeartbeats 400000 in
theorem isByte_a (x : Int) (w : World) : Calls Tryz.prog 15 #[.int .i64 x] w fun e w' => e = .returned (.bool (inB x 0 255)) ∧ w = w' := by
  go_enter Tryz.func15, Tryz.ntmps15
  go_wp2_with (go_at_call 16; refine (within_any _ _ _ _).mono ?_; rintro e w1 ⟨rfl, rfl⟩)
  go_ret
  exact ⟨rfl, rfl⟩
theorem isFormat_a (x : Int) (w : World) : Calls Tryz.prog 35 #[.int .i64 x] w fun e w' => e = .returned (.bool (inB x 1 3)) ∧ w = w' := by
  go_enter Tryz.func35, Tryz.ntmps35
  go_wp2_with (go_at_call 16; refine (within_any _ _ _ _).mono ?_; rintro e w1 ⟨rfl, rfl⟩)
  go_ret
  exact ⟨rfl, rfl⟩
theorem isMarkKind_a (x : Int) (w : World) : Calls Tryz.prog 97 #[.int .i64 x] w fun e w' => e = .returned (.bool (inB x 1 3)) ∧ w = w' := by
  go_enter Tryz.func97, Tryz.ntmps97
  go_wp2_with (go_at_call 16; refine (within_any _ _ _ _).mono ?_; rintro e w1 ⟨rfl, rfl⟩)
  go_ret
  exact ⟨rfl, rfl⟩
theorem byteCells_a (f : Int) (w : World) : Calls Tryz.prog 54 #[.int .i64 f] w fun e w' => e = .returned (.int .i64 (cpb f : Int)) ∧ w = w' := by
  by_cases h2 : f = 3
  · have e2 : (f == 3) = true := by simp [h2]
    have HN := Lib.hid (show cpb f = 10 by unfold cpb; rw [if_pos h2])
    go_enter Tryz.func54, Tryz.ntmps54
    go_wp2
    go_ret
    exact ⟨by rw [HN.out]; rfl, rfl⟩
  · have e2 : (f == 3) = false := by simp [h2]
    have HN := Lib.hid (show cpb f = 16 by unfold cpb; rw [if_neg h2])
    clear h2
    go_enter Tryz.func54, Tryz.ntmps54
    go_wp2
    go_ret
    exact ⟨by rw [HN.out]; rfl, rfl⟩
theorem sizeM_a (A : Option Addr) (n c : Nat) (w : World) (hn : n ≤ 100000) : Calls Tryz.prog 58 #[.slice A n c] w fun e w' => e = .returned (.int .i64 (n : Int)) ∧ w = w' := by
  go_enter Tryz.func58, Tryz.ntmps58
  go_wp2
  go_ret
  exact ⟨rfl, rfl⟩
theorem MarkByte_a (f : Int) (k : Nat) (w : World) (hf : f = 1 ∨ f = 2 ∨ f = 3) (hk : k = 1 ∨ k = 2 ∨ k = 3) : Calls Tryz.prog 75 #[.int .i64 f, .int .i64 (k : Int)] w fun e w' => e = .returned (.int .i64 (mbN f k : Int)) ∧ w = w' := by
  have h1 := fun W => isFormat_a f W
  have h2 := fun W => isMarkKind_a (k : Int) W
  rw [show inB f 1 3 = true by unfold inB; simp; omega] at h1
  rw [show inB (k : Int) 1 3 = true by unfold inB; simp; omega] at h2
  rcases hf with rfl | rfl | rfl <;> rcases hk with rfl | rfl | rfl
  all_goals
    go_enter Tryz.func75, Tryz.ntmps75
    go_wp2_with (first | (go_at_call 35; refine (h1 _).mono ?_; rintro e w1 ⟨rfl, rfl⟩) | (go_at_call 97; refine (h2 _).mono ?_; rintro e w1 ⟨rfl, rfl⟩))
    go_ret
    exact ⟨rfl, rfl⟩

theorem trim_nil (l : List UInt8) : decide (Lib.trimS l [48, 49] = []) = l.all cellB := by
  have hp : (fun x : UInt8 => ([48, 49] : List UInt8).contains x) = cellB := by
    funext x
    unfold cellB
    rw [Bool.eq_iff_iff]
    simp only [List.contains_cons, List.contains_nil, Bool.or_false, Bool.or_eq_true, beq_iff_eq]
    rw [← UInt8.toNat_inj, ← UInt8.toNat_inj]
    exact Iff.rfl
  have h1 : ∀ m : List UInt8, (m.dropWhile cellB = [] ↔ m.all cellB = true) := by
    intro m
    induction m with
    | nil => simp
    | cons x m ih =>
      cases hx : cellB x
      · rw [List.dropWhile_cons_of_neg (by rw [hx]; decide), List.all_cons, hx]
        simp
      · rw [List.dropWhile_cons_of_pos hx, List.all_cons, hx, Bool.true_and]
        exact ih
  have h2 : ∀ m : List UInt8, (m.dropWhile cellB).all cellB = true → m.dropWhile cellB = [] := by
    intro m
    induction m with
    | nil => intro _; rfl
    | cons x m ih =>
      intro h
      cases hx : cellB x
      · rw [List.dropWhile_cons_of_neg (by rw [hx]; decide)] at h
        rw [List.all_cons, hx] at h
        cases h
      · rw [List.dropWhile_cons_of_pos hx] at h ⊢
        exact ih h
  unfold Lib.trimS Lib.trimLeftS Lib.trimRightS
  rw [hp, Bool.eq_iff_iff, decide_eq_true_eq, h1, List.all_reverse]
  constructor
  · intro h
    have := (h1 _).1 (h2 _ h)
    rwa [List.all_reverse] at this
  · intro h
    rw [(h1 _).2 (by rw [List.all_reverse]; exact h)]
    rfl
theorem str_nil (x : ByteArray) : x.toList.isEmpty = decide (bl x = []) := by
  rw [Lib.toList_data]
  show x.data.toList.isEmpty = decide (x.data.toList = [])
  cases x.data.toList <;> rfl
set_option maxHeartbeats 400000 in
theorem isBits_a (s : ByteArray) (w : World) (hs : s.size ≤ 1048576) : Calls Tryz.prog 60 #[.string s] w fun e w' => e = .returned (.bool ((bl s).all cellB)) ∧ Below w.heap.size w w' := by
  have hc := fun W => Any.strings_Trim_laid Tryz.lays160 (by kernel_rfl) s ⟨#[48, 49]⟩ W (by omega) (by decide) (ascii_of_all (by decide))
  have hc : ∀ W, Calls Tryz.prog 88 #[.string s, .string ⟨#[48, 49]⟩] W (fun e w' => e = .returned (.string ⟨(Lib.trimS s.data.toList [48, 49]).toArray⟩) ∧ Below W.heap.size W w') := hc
  have HT := Lib.hid (trim_nil (bl s))
  obtain ⟨r, hr⟩ : ∃ r, (⟨(Lib.trimS s.data.toList [48, 49]).toArray⟩ : ByteArray) = r := ⟨_, rfl⟩
  rw [hr] at hc
  have he : r.toList.isEmpty = (bl s).all cellB := by rw [str_nil, ← HT.out, ← hr]
  obtain ⟨R, hR⟩ : ∃ R, (bl s).all cellB = R := ⟨_, rfl⟩
  rw [hR] at he
  rw [hR]
  clear hr hR HT
  go_enter Tryz.func60, Tryz.ntmps60
  go_wp2_with (go_at_call 88; (with_reducible refine (hc _).mono ?_); rintro e w1 ⟨rfl, hx⟩)
  go_ret
  exact ⟨rfl, hx⟩
set_option maxHeartbeats 400000 in
theorem isCellString_a (s : ByteArray) (w : World) (hs : s.size ≤ 1048576) : Calls Tryz.prog 40 #[.string s] w fun e w' => e = .returned (.bool (decide (s.size ≤ 8000) && (bl s).all cellB)) ∧ Below w.heap.size w w' := by
  have ib := fun W => isBits_a s W hs
  by_cases h8 : s.size ≤ 8000
  · have d8 : decide ((s.size : Int) ≤ 8000) = true := decide_eq_true (by omega)
    have d8' : (s.size : Int) ≤ 8000 := by omega
    rw [decide_eq_true h8, Bool.true_and]
    obtain ⟨R, hR⟩ : ∃ R, (bl s).all cellB = R := ⟨_, rfl⟩
    rw [hR] at ib ⊢
    clear h8 hR
    go_enter Tryz.func40, Tryz.ntmps40
    go_wp2_with (go_at_call 60; (with_reducible refine (ib _).mono ?_); rintro e w1 ⟨rfl, hx⟩)
    go_ret
    exact ⟨rfl, hx⟩
  · have d8 : decide ((s.size : Int) ≤ 8000) = false := decide_eq_false (by omega)
    have d8' : ¬ (s.size : Int) ≤ 8000 := by omega
    rw [decide_eq_false h8, Bool.false_and]
    clear h8
    go_enter Tryz.func40, Tryz.ntmps40
    go_wp2_with fail
    go_ret
    exact ⟨rfl, BB.start w⟩
set_option maxHeartbeats 400000 in
theorem impl_ValidCells_a (s : ByteArray) (w : World) (hs : s.size ≤ 1048576) : Calls Tryz.prog 30 #[.string s] w fun e w' => e = .returned (.bool (cellsB s)) ∧ Below w.heap.size w w' := by
  have ic := fun W => isCellString_a s W hs
  have he := str_nil s
  by_cases h0 : s.size = 0
  · have hn : bl s = [] := List.eq_nil_of_length_eq_zero (by rw [blen]; exact h0)
    have hne : s.toList.isEmpty = true := by rw [he, decide_eq_true hn]
    have HN := Lib.hid (show cellsB s = false by unfold cellsB; rw [decide_eq_false (by omega)]; rfl)
    clear he hn h0
    go_enter Tryz.func30, Tryz.ntmps30
    go_wp2_with fail
    go_ret
    exact ⟨ret_bool (by rw [HN.out]), BB.start w⟩
  · have hn : ¬ bl s = [] := fun e => h0 (by rw [← blen, e]; rfl)
    have hne : s.toList.isEmpty = false := by rw [he, decide_eq_false hn]
    have HN := Lib.hid (show cellsB s = (decide (s.size ≤ 8000) && (bl s).all cellB) by unfold cellsB; rw [decide_eq_true (by omega)]; rfl)
    obtain ⟨R, hR⟩ : ∃ R, (decide (s.size ≤ 8000) && (bl s).all cellB) = R := ⟨_, rfl⟩
    rw [hR] at ic HN
    clear he hn h0 hR
    go_enter Tryz.func30, Tryz.ntmps30
    go_wp2_with (go_at_call 40; (with_reducible refine (ic _).mono ?_); rintro e w1 ⟨rfl, hx⟩)
    go_ret
    exact ⟨ret_bool (by rw [HN.out]), hx⟩
end Go.Proofs.YtlfmpgfobkmgfaaGreatDoor
namespace Go.Proofs.YtlfmpgfobkmgfaaGreatDoor
open Go.RowKit Go.Deep
set_option linter.unusedVariables false
set_option linter.unusedSimpArgs false

set_option maxRecDepth 100000 in
set_option maxHeartbeats 4000000 in
theorem bitsOf_a (s : ByteArray) (w : World) (hs : s.size = 1) :
    Calls Tryz.prog 98 #[.string s] w fun e w' => e = .returned (.string (str1 (bitL (s[0]'(by omega)).toNat 8))) ∧ Below w.heap.size w w' := by
  have h0 : 0 < s.size := by omega
  have hyl := (s[0]'h0).toNat_lt
  obtain ⟨y, hy⟩ : ∃ y, (s[0]'h0).toNat = y := ⟨_, rfl⟩
  rw [hy] at hyl ⊢
  obtain ⟨R, hR⟩ : ∃ R, bitL y 8 = R := ⟨_, rfl⟩
  rw [hR]
  have HR := Lib.hid hR
  clear hR
  have hmk : ∀ W, (Instr.makeSlice 85 (.int .i64 0) (.int .i64 8)).run Tryz.prog W = .ok (.slice (some ⟨W.heap.size, 0, none⟩) 0 8) (W.alloc (.cells (madeCells #[.int .u8 0] 8) 5)) := fun W => mk0 8 (by decide) W
  go_enter Tryz.func98, Tryz.ntmps98
  go_wp2
  have O0 : OwnB (w.alloc (.cells (madeCells #[.int .u8 0] 8) 5)) w.heap.size 5 (.slice (some ⟨w.heap.size, 0, none⟩) 0 8) [] := own0 8 (by decide) w
  have hB0 : BB w (w.alloc (.cells (madeCells #[.int .u8 0] 8) 5)) := BB.al (BB.start w) _
  generalize (w.alloc (.cells (madeCells #[.int .u8 0] 8) 5)) = w1 at O0 hB0 ⊢
  go_loopw [3, 4, 5, 12] (fun v _ _ i wr => ∃ (l : List UInt8) (k : Nat), i = .int .i64 (k : Int) ∧ OwnB wr w.heap.size 5 v l ∧ BB w wr ∧ ((k = 0 ∧ l = []) ∨ (k = 1 ∧ Hid (l = R)))) (fun _ _ _ i _ => 1 - (intOf i).toNat)
  case atStart => exact ⟨[], 0, rfl, O0, hB0, .inl ⟨rfl, rfl⟩⟩
  case round =>
    obtain ⟨l, k, rfl, O, hB, hk⟩ := hrel
    clear O0 hB0
    rcases hk with ⟨rfl, rfl⟩ | ⟨rfl, HL⟩
    · obtain ⟨A1, c1, rfl⟩ := O.form
      go_wp2
      go_loopw [3, 5] (fun v b wx => ∃ (n : Nat) (l : List UInt8), n ≤ 8 ∧ b = .int .i64 ((n : Int) - 1) ∧ l.length ≤ 100 ∧ l.length + n = 8 ∧ OwnB wx w.heap.size 5 v l ∧ BB w wx ∧ Hid (l ++ bitL y n = R)) (fun _ b _ => (intOf b + 1).toNat)
      case atStart => exact ⟨8, [], by omega, rfl, by simp, by simp, O, hB, Lib.hid (by rw [List.nil_append]; exact HR.out)⟩
      case round =>
        obtain ⟨n, l, hn, hbv, hll, hl2, O, hB, HE⟩ := hrel
        obtain ⟨A2, c2, rfl⟩ := O.form
        rcases n with _ | n
        · obtain rfl := hbv.trans (show Value.int .i64 (((0 : Nat) : Int) - 1) = .int .i64 (-1) from rfl)
          have HL := Lib.hid (show l = R by have := HE.out; unfold bitL at this; rw [List.append_nil] at this; exact this)
          go_wp2
          go_roundw
          case rel => exact ⟨l, 1, by go_num, O, hB, .inr ⟨rfl, HL⟩⟩
          case measure => simp [intOf]
        · obtain rfl := hbv.trans (show Value.int .i64 (((n + 1 : Nat) : Int) - 1) = .int .i64 (n : Int) from congrArg (Value.int .i64) (by omega))
          have e2 := crc_e2 y n hyl
          have b2 : bitOf y n = 0 ∨ bitOf y n = 1 := by have := bitOf_lt y n; omega
          have hbs := Below.size hB
          have HN := Lib.hid (show (l ++ [UInt8.ofNat (48 + bitOf y n)]) ++ bitL y n = R by
            rw [← HE.out, List.append_assoc]; rfl)
          obtain ⟨D, hD⟩ : ∃ D, bitOf y n = D := ⟨_, rfl⟩
          rw [hD] at HN e2 b2
          clear hD
          rcases b2 with rfl | rfl
          · go_wp2_with (at_builtin; go_must (refine wpList_appL (by rfl) (.tmp 19) (.tmp 27) 85 (by rfl) eltB _ l (by rfl) O _ _ [48] 1 1 (by rfl) (byte_lit 48) (by rfl) (by simp; omega) hbs ?_); intro v' w' hown' hg' hat' hbl')
            go_roundw
            case rel =>
              repeat apply Exists.intro
              refine And.intro ?_ ?_
              rotate_left
              rfl
              exact ⟨n, _, by omega, congrArg (Value.int .i64) (by omega), by simp; omega, by simp; omega, hown', Below.trans hB hbl', Lib.hid HN.out⟩
            case measure => first | (simp [intOf]; done) | (simp [intOf]; omega)
          · go_wp2_with (at_builtin; go_must (refine wpList_appL (by rfl) (.tmp 19) (.tmp 27) 85 (by rfl) eltB _ l (by rfl) O _ _ [49] 1 1 (by rfl) (byte_lit 49) (by rfl) (by simp; omega) hbs ?_); intro v' w' hown' hg' hat' hbl')
            go_roundw
            case rel =>
              repeat apply Exists.intro
              refine And.intro ?_ ?_
              rotate_left
              rfl
              exact ⟨n, _, by omega, congrArg (Value.int .i64) (by omega), by simp; omega, by simp; omega, hown', Below.trans hB hbl', Lib.hid HN.out⟩
            case measure => first | (simp [intOf]; done) | (simp [intOf]; omega)
    · obtain ⟨A1, c1, rfl⟩ := O.form
      have hcv0 := run_b2s (P := Tryz.prog) (dst := 9) Tryz.underlying85 Tryz.underlying5 Tryz.underlying9 O
      have HL2 := HL.out
      subst HL2
      go_wp2
      go_ret
      exact ⟨by first | rfl | (simp [str1]), hB⟩

theorem lit2 (x z : UInt8) : (#[Value.int .u8 (x.toNat : Int), Value.int .u8 (z.toNat : Int)] : Array Value).toList = bcells [x, z] := rfl
set_option maxRecDepth 100000 in
set_option maxHeartbeats 4000000 in
theorem fmCells_v (s ck : ByteArray) (w : World) (hs : s.size = 1) (hck : bl ck = clkL) :
    Calls Tryz.prog 76 #[.string s, .string ck] w fun e w' => e = .returned (.string (str1 (fmK (bitL (s[0]'(by omega)).toNat 8) 8))) ∧ Below w.heap.size w w' := by
  have bo := fun W => bitsOf_a s W hs
  obtain ⟨bs, hbs⟩ : ∃ bs, bitL (s[0]'(by omega)).toNat 8 = bs := ⟨_, rfl⟩
  have hbl : bs.length = 8 := by rw [← hbs]; exact bitL_len _ 8
  rw [hbs] at bo ⊢
  clear hbs
  obtain ⟨u, hu⟩ : ∃ u, str1 bs = u := ⟨_, rfl⟩
  have hus : u.size = 8 := by rw [← hu, str1_size, hbl]
  have hug : ∀ k (h : k < u.size), u[k] = bs.getD k 0 := by intro k h; subst hu; exact str1_get bs k h
  rw [hu] at bo
  clear hu
  obtain ⟨R, hR⟩ : ∃ R, fmK bs 8 = R := ⟨_, rfl⟩
  rw [hR]
  have HR := Lib.hid hR
  clear hR
  have hcs : ck.size = 8 := by rw [← blen, hck]; rfl
  have hcg : ∀ k (h : k < ck.size), ck[k] = clkL.getD k 0 := by intro k h; rw [getD_b ck k h, hck]
  clear hck
  have hmk : ∀ W, (Instr.makeSlice 85 (.int .i64 0) (.int .i64 16)).run Tryz.prog W = .ok (.slice (some ⟨W.heap.size, 0, none⟩) 0 16) (W.alloc (.cells (madeCells #[.int .u8 0] 16) 5)) := fun W => mk0 16 (by decide) W
  go_enter Tryz.func76, Tryz.ntmps76
  go_wp2_with (go_at_call 98; (with_reducible refine (bo _).mono ?_); rintro e w2 ⟨rfl, hx2⟩)
  have O0 : OwnB (w2.alloc (.cells (madeCells #[.int .u8 0] 16) 5)) w.heap.size 5 (.slice (some ⟨w2.heap.size, 0, none⟩) 0 16) [] := own_base (own0 16 (by decide) w2) hx2.size
  have hB0 : BB w (w2.alloc (.cells (madeCells #[.int .u8 0] 16) 5)) := BB.al hx2 _
  generalize (w2.alloc (.cells (madeCells #[.int .u8 0] 16) 5)) = w1 at O0 hB0 ⊢
  go_loopw [6, 7, 16] (fun v _ i wr => ∃ (l : List UInt8) (k : Nat), i = .int .i64 (k : Int) ∧ k ≤ 8 ∧ OwnB wr w.heap.size 5 v l ∧ BB w wr ∧ l.length ≤ 16 ∧ Hid (l = fmK bs k)) (fun _ _ i _ => 8 - (intOf i).toNat)
  case atStart => exact ⟨[], 0, rfl, by omega, O0, hB0, by simp, Lib.hid rfl⟩
  case round =>
    obtain ⟨l, k, rfl, hk, O, hB, hll, HL⟩ := hrel
    clear O0 hB0
    obtain ⟨B, q, rfl⟩ := O.form
    by_cases hlt : k < 8
    · have hku : k < u.size := by omega
      have hgk := hug k hku
      obtain ⟨z, hz⟩ : ∃ z, bs.getD k 0 = z := ⟨_, rfl⟩
      rw [hz] at hgk
      obtain ⟨x, hx⟩ : ∃ x, clkL.getD (k % 8) 0 = x := ⟨_, rfl⟩
      have HN := Lib.hid (show l ++ [x, z] = fmK bs (k + 1) by rw [fmK_s, hx, hz, HL.out])
      have hrm : ((k : Int).tmod 8) = (k : Int) := by rw [show (8 : Int) = ((8 : Nat) : Int) from rfl, rem_nat, Nat.mod_eq_of_lt hlt]
      have hlti : decide ((k : Int) < 8) = true := decide_eq_true (by omega)
      have hltp : (k : Int) < 8 := by omega
      have hkc : k < ck.size := by omega
      have hgc : ck[k] = x := by rw [hcg k hkc, ← hx, Nat.mod_eq_of_lt hlt]
      clear hz hug hcg hx
      have hbs : w.heap.size ≤ wr.drew.heap.size := (show w.heap.size ≤ wr.heap.size from Below.size hB)
      have hxl := x.toNat_lt
      have hzl := z.toNat_lt
      go_wp2_with fail
      go_region_law (refine step_appL (base := w.heap.size) rfl (.tmp 19) (.tmp 27) 85 rfl eltB (.slice B l.length q) l rfl (OO.dr O) _ 5 [x, z] 2 2 rfl (lit2 x z) rfl (by simp; omega) hbs ?_; intro v' w' hown' hbl')
      all_goals
        have hB' : BB w w' := Below.trans (BB.dr hB) hbl'
        go_wp2_with fail
        go_roundw
        case rel => exact ⟨l ++ [x, z], k + 1, by go_num, hlt, hown', hB', by rw [HN.out, fmK_len]; omega, HN⟩
        case measure => simp [intOf]; omega
    · have hlti : decide ((k : Int) < 8) = false := decide_eq_false (by omega)
      obtain rfl : k = 8 := by omega
      have hcv0 := run_b2s (P := Tryz.prog) (dst := 9) Tryz.underlying85 Tryz.underlying5 Tryz.underlying9 O
      have HL2 := HL.out.trans HR.out
      subst HL2
      go_wp2
      go_ret
      exact ⟨by first | rfl | (simp [str1]), hB⟩
theorem fmCells_a (s : ByteArray) (w : World) (hs : s.size = 1) :
    Calls Tryz.prog 76 #[.string s, .string ⟨#[49, 49, 48, 48, 48, 49, 49, 49]⟩] w fun e w' => e = .returned (.string (str1 (fmK (bitL (s[0]'(by omega)).toNat 8) 8))) ∧ Below w.heap.size w w' := fmCells_v s ⟨#[49, 49, 48, 48, 48, 49, 49, 49]⟩ w hs rfl
theorem bitL_bits (b : Nat) : ∀ n, bitsB (bitL b n)
  | 0 => fun x h => by cases h
  | n + 1 => fun x h => by
    unfold bitL at h
    rcases List.mem_cons.1 h with rfl | h
    · have : bitOf b n = 0 ∨ bitOf b n = 1 := by have := bitOf_lt b n; omega
      rcases this with h | h <;> rw [h]
      · exact .inl rfl
      · exact .inr rfl
    · exact bitL_bits b n x h
set_option maxRecDepth 100000 in
set_option maxHeartbeats 8000000 in
theorem mfmCells_a (s : ByteArray) (w : World) (hs : s.size = 1) :
    Calls Tryz.prog 78 #[.string s, .bool true] w fun e w' => e = .returned (.string (str1 (mfL true (bitL (s[0]'(by omega)).toNat 8)))) ∧ Below w.heap.size w w' := by
  have bo := fun W => bitsOf_a s W hs
  obtain ⟨bs, hbs⟩ : ∃ bs, bitL (s[0]'(by omega)).toNat 8 = bs := ⟨_, rfl⟩
  have hbl : bs.length = 8 := by rw [← hbs]; exact bitL_len _ 8
  have hbb : bitsB bs := by rw [← hbs]; exact bitL_bits _ 8
  rw [hbs] at bo ⊢
  clear hbs
  obtain ⟨u, hu⟩ : ∃ u, str1 bs = u := ⟨_, rfl⟩
  have hus : u.size = 8 := by rw [← hu, str1_size, hbl]
  have hug : ∀ k (h : k < u.size), u[k] = bs.getD k 0 := by intro k h; subst hu; exact str1_get bs k h
  rw [hu] at bo
  clear hu
  obtain ⟨R, hR⟩ : ∃ R, mfL true bs = R := ⟨_, rfl⟩
  rw [hR]
  have HR := Lib.hid hR
  have HBL := Lib.hid hbl
  clear hR hbl
  have hmk : ∀ W, (Instr.makeSlice 85 (.int .i64 0) (.int .i64 16)).run Tryz.prog W = .ok (.slice (some ⟨W.heap.size, 0, none⟩) 0 16) (W.alloc (.cells (madeCells #[.int .u8 0] 16) 5)) := fun W => mk0 16 (by decide) W
  go_enter Tryz.func78, Tryz.ntmps78
  go_wp2_with (go_at_call 98; (with_reducible refine (bo _).mono ?_); rintro e w2 ⟨rfl, hx2⟩)
  have O0 : OwnB (w2.alloc (.cells (madeCells #[.int .u8 0] 16) 5)) w.heap.size 5 (.slice (some ⟨w2.heap.size, 0, none⟩) 0 16) [] := own_base (own0 16 (by decide) w2) hx2.size
  have hB0 : BB w (w2.alloc (.cells (madeCells #[.int .u8 0] 16) 5)) := BB.al hx2 _
  generalize (w2.alloc (.cells (madeCells #[.int .u8 0] 16) 5)) = w1 at O0 hB0 ⊢
  go_loopw [1, 6, 7, 8, 17] (fun la v _ _ i wr => ∃ (l : List UInt8) (k : Nat) (C : Bool), la = .bool C ∧ i = .int .i64 (k : Int) ∧ k ≤ 8 ∧ OwnB wr w.heap.size 5 v l ∧ BB w wr ∧ l.length ≤ 2 * k ∧ Hid (l ++ mfL C (bs.drop k) = R)) (fun _ _ _ _ i _ => 8 - (intOf i).toNat)
  case atStart => exact ⟨[], 0, true, rfl, rfl, by omega, O0, hB0, by simp, Lib.hid (by rw [List.nil_append, List.drop_zero]; exact HR.out)⟩
  case round =>
    obtain ⟨l, k, C, rfl, rfl, hk, O, hB, hll, HL⟩ := hrel
    clear O0 hB0
    obtain ⟨B, q, rfl⟩ := O.form
    by_cases hlt : k < 8
    · have hku : k < u.size := by omega
      have hkb : k < bs.length := by rw [HBL.out]; exact hlt
      have hgk := hug k hku
      have hzz : bs.getD k 0 = bs[k] := by rw [List.getD_eq_getElem?_getD, List.getElem?_eq_getElem hkb, Option.getD_some]
      have hz01 := bits_get hbb hkb
      rw [hzz] at hgk
      obtain ⟨z, hz⟩ : ∃ z, bs[k] = z := ⟨_, rfl⟩
      have HN := Lib.hid (show (l ++ [(if C = false ∧ z = 48 then 49 else 48), z]) ++ mfL (z == 49) (bs.drop (k + 1)) = R by
        rw [← HL.out, List.drop_eq_getElem_cons hkb, hz, List.append_assoc]
        rfl)
      rw [hz] at hgk hz01
      have hlti : decide ((k : Int) < 8) = true := decide_eq_true (by omega)
      have hltp : (k : Int) < 8 := by omega
      clear hz hug hzz hbb
      have hbs := Below.size hB
      rcases hz01 with rfl | rfl <;> cases C
      · skip
        go_wp2_with (at_builtin; go_must (refine wpList_appL (by rfl) (.tmp 28) (.tmp 33) 85 (by rfl) eltB _ l (by rfl) O _ _ [49, 48] 2 2 (by rfl) (lit2 49 48) (by rfl) (by simp; omega) hbs ?_); intro v' w' hown' hg' hat' hbl')
        go_roundw
        case rel => exact ⟨_, k + 1, _, rfl, by go_num, hlt, hown', Below.trans hB hbl', by simp; omega, HN⟩
        case measure => simp [intOf]; omega
      · skip
        go_wp2_with (at_builtin; go_must (refine wpList_appL (by rfl) (.tmp 28) (.tmp 33) 85 (by rfl) eltB _ l (by rfl) O _ _ [48, 48] 2 2 (by rfl) (lit2 48 48) (by rfl) (by simp; omega) hbs ?_); intro v' w' hown' hg' hat' hbl')
        go_roundw
        case rel => exact ⟨_, k + 1, _, rfl, by go_num, hlt, hown', Below.trans hB hbl', by simp; omega, HN⟩
        case measure => simp [intOf]; omega
      · skip
        go_wp2_with (at_builtin; go_must (refine wpList_appL (by rfl) (.tmp 28) (.tmp 33) 85 (by rfl) eltB _ l (by rfl) O _ _ [48, 49] 2 2 (by rfl) (lit2 48 49) (by rfl) (by simp; omega) hbs ?_); intro v' w' hown' hg' hat' hbl')
        go_roundw
        case rel => exact ⟨_, k + 1, _, rfl, by go_num, hlt, hown', Below.trans hB hbl', by simp; omega, HN⟩
        case measure => simp [intOf]; omega
      · skip
        go_wp2_with (at_builtin; go_must (refine wpList_appL (by rfl) (.tmp 28) (.tmp 33) 85 (by rfl) eltB _ l (by rfl) O _ _ [48, 49] 2 2 (by rfl) (lit2 48 49) (by rfl) (by simp; omega) hbs ?_); intro v' w' hown' hg' hat' hbl')
        go_roundw
        case rel => exact ⟨_, k + 1, _, rfl, by go_num, hlt, hown', Below.trans hB hbl', by simp; omega, HN⟩
        case measure => simp [intOf]; omega
    · have hlti : decide ((k : Int) < 8) = false := decide_eq_false (by omega)
      obtain rfl : k = 8 := by omega
      have hd : bs.drop 8 = [] := List.drop_eq_nil_of_le (by rw [HBL.out]; exact Nat.le_refl _)
      have HN := Lib.hid (show l = R by rw [← HL.out, hd]; unfold mfL; rw [List.append_nil])
      have hcv0 := run_b2s (P := Tryz.prog) (dst := 9) Tryz.underlying85 Tryz.underlying5 Tryz.underlying9 O
      have HL2 := HN.out
      subst HL2
      go_wp2
      go_ret
      exact ⟨by first | rfl | (simp [str1]), hB⟩
end Go.Proofs.YtlfmpgfobkmgfaaGreatDoor
namespace Go.Proofs.YtlfmpgfobkmgfaaGreatDoor
open Go.RowKit Go.Deep
set_option linter.unusedVariables false
set_option linter.unusedSimpArgs false

theorem str1_of {x : ByteArray} {l : List UInt8} (h : bl x = l) : x = str1 l := by
  apply ByteArray.ext
  apply Array.toList_inj.1
  exact h
set_option maxRecDepth 100000 in
set_option maxHeartbeats 2000000 in
theorem slice_a (s : ByteArray) (a n : Nat) (w : World) (hs : s.size ≤ 8000) (ha : a ≤ s.size) (hn : n ≤ s.size) :
    Calls Tryz.prog 56 #[.string s, .int .i64 (a : Int), .int .i64 (n : Int)] w fun e w' => e = .returned (.string (str1 (cir (bl s) a n))) ∧ Below w.heap.size w w' := by
  have hcn := blen s
  obtain ⟨R, hR⟩ : ∃ R, str1 (cir (bl s) a n) = R := ⟨_, rfl⟩
  rw [hR]
  by_cases h : a + n ≤ s.size
  · have HE := Lib.hid (show s.extract a (a + n) = R by rw [← hR]; apply str1_of; rw [bl_ext, Nat.add_sub_cancel_left]; exact cir_1 (by omega))
    have hle : decide ((a : Int) + (n : Int) ≤ (s.size : Int)) = true := decide_eq_true (by omega)
    have hwr : IntKind.i64.wrap ((a : Int) + (n : Int)) = (a : Int) + (n : Int) := IntWalk.i64_in _ (by omega)
    have hwr2 : IntKind.i64.wrap (s.size : Int) = (s.size : Int) := IntWalk.i64_in _ (by omega)
    clear hR
    go_enter Tryz.func56, Tryz.ntmps56
    go_wp2
    go_ret
    exact ⟨by rw [← HE.out]; rfl, BB.start w⟩
  · have HE := Lib.hid (show s.extract a s.size ++ s.extract 0 (a + n - s.size) = R by
      rw [← hR]
      apply str1_of
      rw [show bl (s.extract a s.size ++ s.extract 0 (a + n - s.size)) = bl (s.extract a s.size) ++ bl (s.extract 0 (a + n - s.size)) by unfold bl; rw [ByteArray.data_append, Array.toList_append]]
      rw [bl_ext, bl_ext, List.drop_zero, Nat.sub_zero, List.take_of_length_le (by rw [List.length_drop]; omega), ← cir_2 (by omega) (by omega) (by omega), hcn])
    have hle : decide ((a : Int) + (n : Int) ≤ (s.size : Int)) = false := decide_eq_false (by omega)
    have hle2 : ¬ (a : Int) + (n : Int) ≤ (s.size : Int) := by omega
    have hwr : IntKind.i64.wrap ((a : Int) + (n : Int)) = (a : Int) + (n : Int) := IntWalk.i64_in _ (by omega)
    have hwr2 : IntKind.i64.wrap (s.size : Int) = (s.size : Int) := IntWalk.i64_in _ (by omega)
    have hwr3 : IntKind.i64.wrap ((a : Int) + (n : Int) - (s.size : Int)) = (a : Int) + (n : Int) - (s.size : Int) := IntWalk.i64_in _ (by omega)
    obtain ⟨q, hq⟩ : ∃ q, a + n - s.size = q := ⟨_, rfl⟩
    have hqi : (a : Int) + (n : Int) - (s.size : Int) = (q : Int) := by omega
    have hqn : q ≤ s.size := by omega
    have han : a ≤ s.size := ha
    rw [hq] at HE
    have hbig : ¬ 9223372036854775807 < (s.extract a s.size).size + (s.extract 0 q).size := by rw [ByteArray.size_extract, ByteArray.size_extract]; omega
    clear hR hq
    go_enter Tryz.func56, Tryz.ntmps56
    go_wp2
    go_quiet (fail)
    go_wp2
    go_ret
    exact ⟨by rw [← HE.out]; rfl, BB.dn (BB.start w) _⟩

def plI (c p : List UInt8) (n : Nat) : List Nat := if n < p.length then [] else plK c p n
set_option maxRecDepth 100000 in
set_option maxHeartbeats 2000000 in
theorem findPattern_a (s p : ByteArray) (w : World) (hs : s.size ≤ 8000) (hp : p.size ≤ 1048576) :
    Calls Tryz.prog 50 #[.string s, .string p] w fun e w' => ∃ v, e = .returned v ∧ w'.ownsRow w.heap.size 2 1 v (plI (bl s) (bl p) s.size).length (flat fN (plI (bl s) (bl p) s.size)) ∧ Below w.heap.size w w' := by
  have hby : 8 ≤ 1000 := by decide
  obtain ⟨R, hR⟩ : ∃ R, plI (bl s) (bl p) s.size = R := ⟨_, rfl⟩
  rw [hR]
  by_cases hsp : s.size < p.size
  · have HN := Lib.hid (show R = [] by rw [← hR]; unfold plI; rw [if_pos (by rw [blen]; exact hsp)])
    have hlti : decide ((s.size : Int) < (p.size : Int)) = true := decide_eq_true (by omega)
    clear hR
    go_enter Tryz.func50, Tryz.ntmps50
    go_wp2
    go_ret
    exact ⟨_, rfl, by rw [HN.out]; exact World.ownsRow_nil _ _ _ _, BB.start w⟩
  · have HR := Lib.hid (show plK (bl s) (bl p) s.size = R by rw [← hR]; unfold plI; rw [if_neg (by rw [blen]; exact hsp)])
    have hlti : decide ((s.size : Int) < (p.size : Int)) = false := decide_eq_false (by omega)
    clear hR
    obtain ⟨tw, htw⟩ : ∃ tw, s ++ s = tw := ⟨_, rfl⟩
    have hts : tw.size = s.size + s.size := by rw [← htw, ByteArray.size_append]
    have hbt : bl tw = bl s ++ bl s := by rw [← htw]; unfold bl; rw [ByteArray.data_append, Array.toList_append]
    have hbig : ¬ 9223372036854775807 < s.size + s.size := by omega
    have fits := fun (k : Nat) (hk : k < s.size) (W : World) => Tryz.strings_HasPrefix (tw.extract k tw.size) p W
    have fits : ∀ k (hk : k < s.size) W, Calls Tryz.prog 80 #[.string (tw.extract k tw.size), .string p] W (fun e w' => e = .returned (.bool (fitB (bl s) (bl p) k)) ∧ w' = W) := by
      intro k hk W
      have h := fits k hk W
      have e1 : Lib.hasPrefix (tw.extract k tw.size).data.toList p.data.toList = fitB (bl s) (bl p) k := by
        have e2 := pre_fit (c := bl s) (p := bl p) (a := k) (by rw [blen]; omega) (by rw [blen, blen]; omega)
        rw [← e2, ← Lib.hasPrefix_of_take]
        have e3 : (tw.extract k tw.size).data.toList = (bl s ++ bl s).drop k := by
          have := bl_ext tw k tw.size
          rw [hbt, List.take_of_length_le (by rw [List.length_drop, List.length_append, blen]; omega)] at this
          exact this
        rw [e3]
        have e4 : p.data.toList.length ≤ ((bl s ++ bl s).drop k).length := by
          have h1 : p.data.toList.length = p.size := blen p
          have h2 := blen s
          rw [List.length_drop, List.length_append]
          omega
        rw [decide_eq_true e4, Bool.true_and]
        rw [Bool.eq_iff_iff, beq_iff_eq, decide_eq_true_eq]
      rw [e1] at h
      exact h
    go_enter Tryz.func50, Tryz.ntmps50
    go_wp2
    have HTS := Lib.hid hts
    clear htw hbt hts
    have O0 : World.ownsRow w w.heap.size 2 1 (.slice none 0 0) 0 (flat fN []) := World.ownsRow_nil _ _ _ _
    have hB0 : BB w w := BB.start w
    go_loopw [6, 7, 18] (fun v _ i wr => ∃ (k : Nat) (l : List Nat) (B : Option Addr) (q : Nat), i = .int .i64 (k : Int) ∧ v = .slice B l.length q ∧ k ≤ s.size ∧ OO wr w.heap.size 2 1 (.slice B l.length q) l.length (flat fN l) ∧ BB w wr ∧ Hid (l = plK (bl s) (bl p) k)) (fun _ _ i _ => s.size - (intOf i).toNat)
    case atStart => exact ⟨0, [], _, _, rfl, rfl, Nat.zero_le _, O0, hB0, Lib.hid rfl⟩
    case round =>
      obtain ⟨k, l, B, q, rfl, rfl, hk, O, hB, HL⟩ := hrel
      clear O0 hB0
      by_cases hlt : k < s.size
      · have hlti : decide ((k : Int) < (s.size : Int)) = true := decide_eq_true (by omega)
        have hkt : k ≤ tw.size := by rw [HTS.out]; omega
        have ft := fits k hlt
        have hll : l.length ≤ 100000000 := by rw [HL.out]; have := plK_len (bl s) (bl p) k; omega
        have HS := Lib.hid (plK_s (bl s) (bl p) k)
        clear fits
        cases hf : fitB (bl s) (bl p) k
        · rw [hf] at ft
          have HN := Lib.hid (show l = plK (bl s) (bl p) (k + 1) by rw [HS.out, hf, HL.out]; simp)
          clear hf
          go_wp2_with (go_at_call 80; (with_reducible refine (ft _).mono ?_); rintro e w5 ⟨rfl, rfl⟩)
          go_roundw
          case rel => exact ⟨k + 1, l, B, q, by go_num, rfl, hlt, O, hB, HN⟩
          case measure => (simp [intOf] <;> omega)
        · rw [hf] at ft
          have HN := Lib.hid (show l ++ [k] = plK (bl s) (bl p) (k + 1) by rw [HS.out, hf, HL.out]; rfl)
          clear hf
          have hbs := Below.size hB
          go_wp2_with (first
            | (go_at_call 80; (with_reducible refine (ft _).mono ?_); rintro e w5 ⟨rfl, rfl⟩)
            | (at_builtin; go_must (refine wpList_appF (f := fN) (by rfl) (.tmp 26) (.tmp 28) 66 (by rfl) eltN hby (.slice B l.length q) l (by rfl) (OOf O) _ _ k 1 (by rfl) (by rfl) (by rfl) (oneN _) hll hbs ?_); intro v' w' hown' hg' hat' hbl'))
          have hl1 : (l ++ [k]).length = l.length + 1 := by rw [List.length_append]; rfl
          obtain ⟨B5, c5, rfl⟩ := own_form hown'
          go_roundw
          case rel => exact ⟨k + 1, l ++ [k], B5, c5, by go_num, rfl, hlt, hown', Below.trans hB hbl', HN⟩
          case measure => (simp [intOf] <;> omega)
      · have hlti : decide ((k : Int) < (s.size : Int)) = false := decide_eq_false (by omega)
        obtain rfl : k = s.size := by omega
        go_wp2
        go_ret
        exact ⟨_, rfl, by rw [← HR.out, ← HL.out]; exact OOf O, hB⟩
theorem idx_z (l : List UInt8) : decide (0 ≤ Lib.indexByte l 48) = l.contains 48 := (Lib.contains_iff_indexByte l 48).symm
set_option maxRecDepth 100000 in
set_option maxHeartbeats 4000000 in
theorem syncRuns_a (s : ByteArray) (w : World) (hs : s.size ≤ 8000) (hbits : bitsB (bl s)) :
    Calls Tryz.prog 74 #[.string s] w fun e w' => ∃ v, e = .returned v ∧ w'.ownsRow w.heap.size 70 2 v (syncI (bl s)).length (flat fR (syncI (bl s))) ∧ Below w.heap.size w w' := by
  have hby : 16 ≤ 1000 := by decide
  have ct := fun W => Tryz.strings_Contains_one s 48 W
  have ct : ∀ W, Calls Tryz.prog 96 #[.string s, .string ⟨#[48]⟩] W (fun e w' => e = .returned (.bool (decide (0 ≤ Lib.indexByte (bl s) 48))) ∧ w' = W) := ct
  rw [idx_z] at ct
  obtain ⟨Z, hZ⟩ : ∃ Z, (bl s).contains 48 = Z := ⟨_, rfl⟩
  rw [hZ] at ct
  obtain ⟨R, hR⟩ : ∃ R, syncI (bl s) = R := ⟨_, rfl⟩
  rw [hR]
  cases Z
  · have hall : ∀ x ∈ bl s, x = 49 := by
      intro x hx
      rcases hbits x hx with h | h
      · have : (bl s).contains 48 = true := by rw [List.contains_iff_mem, ← h]; exact hx
        rw [hZ] at this
        cases this
      · exact h
    by_cases h10 : 10 ≤ s.size
    · have HN := Lib.hid (show R = [(0, s.size)] by rw [← hR]; unfold syncI; rw [if_pos hall, blen, if_pos h10])
      have hlti : decide ((s.size : Int) < 10) = false := decide_eq_false (by omega)
      have hlti2 : ¬ (s.size : Int) < 10 := by omega
      clear hR hall hZ hbits h10
      go_enter Tryz.func74, Tryz.ntmps74
      go_wp2_with (go_at_call 96; (with_reducible refine (ct _).mono ?_); rintro e w5 ⟨rfl, rfl⟩)
      go_ret
      have O0 := World.ownsRow_lit (base := w5.heap.size) (e := 70) (size := 2) w5 #[.int .i64 0, .int .i64 (s.size : Int)] 1 (Nat.le_refl _) (by decide) rfl
      exact ⟨_, rfl, by rw [HN.out]; exact O0, BB.al (BB.start w5) _⟩
    · have HN := Lib.hid (show R = [] by rw [← hR]; unfold syncI; rw [if_pos hall, blen, if_neg h10])
      have hlti : decide ((s.size : Int) < 10) = true := decide_eq_true (by omega)
      have hlti2 : (s.size : Int) < 10 := by omega
      clear hR hall hZ hbits h10
      go_enter Tryz.func74, Tryz.ntmps74
      go_wp2_with (go_at_call 96; (with_reducible refine (ct _).mono ?_); rintro e w5 ⟨rfl, rfl⟩)
      go_ret
      exact ⟨_, rfl, by rw [HN.out]; exact World.ownsRow_nil _ _ _ _, BB.start w5⟩
  · have hmem : (48 : UInt8) ∈ bl s := List.contains_iff_mem.1 hZ
    obtain ⟨jz, hjz, hez⟩ := List.getElem_of_mem hmem
    have hex : ∃ j, j < (bl s).length ∧ (bl s).getD j 0 ≠ 49 := ⟨jz, hjz, by rw [List.getD_eq_getElem?_getD, List.getElem?_eq_getElem hjz, Option.getD_some, hez]; decide⟩
    have h0 : 0 < s.size := by have := blen s; omega
    have HLT := Lib.hid (fun a => ones_lt hex a)
    have HR := Lib.hid (show synK (bl s) s.size = R by
      rw [← hR]
      unfold syncI
      rw [if_neg (fun h => by have h1 := h _ hmem; exact absurd h1 (by decide))]
      unfold synK syncL
      rw [blen])
    clear hR hZ hbits hmem hez hex
    go_enter Tryz.func74, Tryz.ntmps74
    go_wp2_with (go_at_call 96; (with_reducible refine (ct _).mono ?_); rintro e w5 ⟨rfl, rfl⟩)
    have O0 : World.ownsRow w5 w5.heap.size 70 2 (.slice none 0 0) 0 (flat fR []) := World.ownsRow_nil _ _ _ _
    have hB0 : BB w5 w5 := BB.start w5
    clear ct hjz
    go_loopw [4, 5, 6, 18] (fun v _ _ i wr => ∃ (k : Nat) (l : List (Nat × Nat)) (B : Option Addr) (q : Nat), i = .int .i64 (k : Int) ∧ v = .slice B l.length q ∧ k ≤ s.size ∧ OO wr w5.heap.size 70 2 (.slice B l.length q) l.length (flat fR l) ∧ BB w5 wr ∧ Hid (l = synK (bl s) k)) (fun _ _ _ i _ => s.size - (intOf i).toNat)
    case atStart => exact ⟨0, [], _, _, rfl, rfl, Nat.zero_le _, O0, hB0, Lib.hid rfl⟩
    case round =>
      obtain ⟨k, l, B, q, rfl, rfl, hk, O, hB, HL⟩ := hrel
      clear O0 hB0
      by_cases hlt : k < s.size
      · have hlti : decide ((k : Int) < (s.size : Int)) = true := decide_eq_true (by omega)
        have hll : l.length ≤ 100000000 := by rw [HL.out]; have := synK_len (bl s) k; omega
        have HS := Lib.hid (synK_s (bl s) k)
        have HY := Lib.hid (cw_idx s k hlt)
        obtain ⟨y, hy⟩ : ∃ y, s[k] = y := ⟨_, rfl⟩
        rw [hy] at HY
        by_cases e1 : y = 49
        rotate_left
        · have d1 := bne49' e1
          have HN := Lib.hid (show l = synK (bl s) (k + 1) by rw [HS.out, sync_no1 (by rw [← HY.out]; exact e1), HL.out]; simp)
          clear e1
          go_wp2
          go_roundw
          case rel => exact ⟨k + 1, l, B, q, by go_num, rfl, hlt, O, hB, HN⟩
          case measure => (simp [intOf] <;> omega)
        · have d1 := bne49 e1
          have HC1 := Lib.hid (show cw (bl s) k = 49 by rw [← HY.out]; exact e1)
          clear e1
          have hw1 : IntKind.i64.wrap ((k : Int) + (s.size : Int)) = (k : Int) + (s.size : Int) := IntWalk.i64_in _ (by omega)
          have hw2 : IntKind.i64.wrap ((k : Int) + (s.size : Int) - 1) = ((k + s.size - 1 : Nat) : Int) := by rw [IntWalk.i64_in _ (by omega)]; omega
          have hrm := rem_nat (k + s.size - 1) s.size
          have hgx := cw_get s (k + s.size - 1) h0
          obtain ⟨m, hm⟩ : ∃ m, (k + s.size - 1) % s.size = m := ⟨_, rfl⟩
          have hml : m < s.size := by rw [← hm]; exact Nat.mod_lt _ h0
          simp only [hm] at hrm hgx
          obtain ⟨x, hx⟩ : ∃ x, cw (bl s) (k + s.size - 1) = x := ⟨_, rfl⟩
          rw [hx] at hgx
          have hgx2 : s[m] = x := hgx.symm
          have hn0 : ¬ ((s.size : Int) = 0) := by omega
          clear hgx hm
          by_cases e2 : x = 49
          · have d2 := eq49 e2
            have HN := Lib.hid (show l = synK (bl s) (k + 1) by rw [HS.out, sync_no2 (blen s) (hx.trans e2), HL.out]; simp)
            clear e2 hx
            go_wp2
            go_roundw
            case rel => exact ⟨k + 1, l, B, q, by go_num, rfl, hlt, O, hB, HN⟩
            case measure => (simp [intOf] <;> omega)
          · have d2 := ne49 e2
            have HC2 := Lib.hid (show ¬ cw (bl s) (k + s.size - 1) = 49 by rw [hx]; exact e2)
            have HLk := Lib.hid (show onesF (bl s) k s.size < s.size by have := HLT.out k; rwa [blen] at this)
            clear e2 hx
            go_wp2
            clear hw1 hw2 hrm hgx2 d2 d1 hml
            go_loopw [6] (fun j wx => ∃ j0 : Nat, j = .int .i64 (j0 : Int) ∧ j0 ≤ s.size ∧ wr = wx ∧ Hid (j0 + onesF (bl s) (k + j0) (s.size - j0) = onesF (bl s) k s.size)) (fun j _ => s.size - (intOf j).toNat)
            case atStart => exact ⟨0, rfl, Nat.zero_le _, (by first | rfl | trivial), Lib.hid (by simp)⟩
            case round =>
              obtain ⟨j0, rfl, hj0, rfl, HJ⟩ := hrel
              have hlt2 : j0 < s.size := by have h1 := HJ.out; have h2 := HLk.out; omega
              have hw1 : IntKind.i64.wrap ((k : Int) + (j0 : Int)) = ((k + j0 : Nat) : Int) := IntWalk.i64_in _ (by omega)
              have hgx := cw_get s (k + j0) h0
              obtain ⟨z, hz⟩ : ∃ z, cw (bl s) (k + j0) = z := ⟨_, rfl⟩
              rw [hz] at hgx
              have hgx2 : s[(k + j0) % s.size]'(Nat.mod_lt _ h0) = z := hgx.symm
              have hgb : (k + j0) % s.size < s.size := Nat.mod_lt _ h0
              have hgi : ((k : Int) + (j0 : Int)) % (s.size : Int) < (s.size : Int) := Int.emod_lt_of_pos _ (by omega)
              have hgz : 0 ≤ ((k : Int) + (j0 : Int)) % (s.size : Int) := Int.emod_nonneg _ (by omega)
              clear hgx
              by_cases e3 : z = 49
              · have d3 := eq49 e3
                have HJ2 := Lib.hid (show (j0 + 1) + onesF (bl s) (k + (j0 + 1)) (s.size - (j0 + 1)) = onesF (bl s) k s.size by
                  rw [← HJ.out, show s.size - j0 = (s.size - (j0 + 1)) + 1 by omega, ones_y (hz.trans e3), ← Nat.add_assoc k j0 1]
                  omega)
                clear e3 hz
                go_wp2
                go_roundw
                case rel => exact ⟨j0 + 1, by go_num, by omega, (by first | rfl | trivial), HJ2⟩
                case measure => (simp [intOf] <;> omega)
              · have d3 := ne49 e3
                have HJ2 := Lib.hid (show onesF (bl s) k s.size = j0 by
                  rw [← HJ.out, show s.size - j0 = (s.size - (j0 + 1)) + 1 by omega, ones_n (by rw [hz]; exact e3)]
                  rfl)
                clear e3 hz
                by_cases e4 : 10 ≤ j0
                · have d4 : decide ((10 : Int) ≤ (j0 : Int)) = true := decide_eq_true (by omega)
                  have HN := Lib.hid (show l ++ [(k, j0)] = synK (bl s) (k + 1) by rw [HS.out, sync_yes (blen s) HC1.out HC2.out (by rw [HJ2.out]; exact e4), HJ2.out, HL.out]; rfl)
                  have hbs := Below.size hB
                  clear e4
                  go_wp2_with (at_builtin; go_must (refine wpList_appF (f := fR) (by rfl) (.tmp 48) (.tmp 52) 63 (by rfl) eltR hby (.slice B l.length q) l (by rfl) (OOf O) _ _ (k, j0) 1 (by rfl) (by rfl) (by rfl) (oneR _) hll hbs ?_); intro v' w' hown' hg' hat' hbl')
                  have hl1 : (l ++ [(k, j0)]).length = l.length + 1 := by rw [List.length_append]; rfl
                  obtain ⟨B5, c5, rfl⟩ := own_form hown'
                  go_roundw
                  case rel => exact ⟨k + 1, l ++ [(k, j0)], B5, c5, by go_num, rfl, hlt, hown', Below.trans hB hbl', HN⟩
                  case measure => (simp [intOf] <;> omega)
                · have d4 : decide ((10 : Int) ≤ (j0 : Int)) = false := decide_eq_false (by omega)
                  have HN := Lib.hid (show l = synK (bl s) (k + 1) by rw [HS.out, sync_no3 (blen s) (by rw [HJ2.out]; exact e4), HL.out]; simp)
                  clear e4
                  go_wp2
                  go_roundw
                  case rel => exact ⟨k + 1, l, B, q, by go_num, rfl, hlt, O, hB, HN⟩
                  case measure => (simp [intOf] <;> omega)
      · have hlti : decide ((k : Int) < (s.size : Int)) = false := decide_eq_false (by omega)
        obtain rfl : k = s.size := by omega
        go_wp2
        go_ret
        exact ⟨_, rfl, by rw [← HR.out, ← HL.out]; exact OOf O, hB⟩
end Go.Proofs.YtlfmpgfobkmgfaaGreatDoor
namespace Go.Proofs.YtlfmpgfobkmgfaaGreatDoor
open Go.RowKit Go.Deep
set_option linter.unusedVariables false
set_option linter.unusedSimpArgs false

/-- The table of the group code, as the package holds it. -/
structure GG (w : World) : Prop where
  fw : ∀ k, k < 16 → w.cell? ⟨0, k, none⟩ = some (.string (gS k))
  lt : 1 ≤ w.heap.size
theorem GG.next {w w' : World} {B : Nat} (h : GG w) (hx : Below B w w') (hB : 1 ≤ B) : GG w' :=
  ⟨fun k hk => (hx.cell (p := ⟨0, k, none⟩) (by show 0 < B; omega)).trans (h.fw k hk), Nat.le_trans h.lt hx.size⟩
theorem GG.bb {w w' : World} (h : GG w) (hx : BB w w') : GG w' := h.next hx h.lt

def gArr : Array Value := #[.string (gS 0), .string (gS 1), .string (gS 2), .string (gS 3), .string (gS 4), .string (gS 5), .string (gS 6), .string (gS 7), .string (gS 8), .string (gS 9), .string (gS 10), .string (gS 11), .string (gS 12), .string (gS 13), .string (gS 14), .string (gS 15)]
theorem gArr_run (k : Nat) (h : k < 16) (w : World) : (Instr.index 113 (.agg gArr) (.int .i64 (k : Int))).run Tryz.prog w = .ok (.string (gS k)) w := by
  rcases k with _ | _ | _ | _ | _ | _ | _ | _ | _ | _ | _ | _ | _ | _ | _ | _ | k
  all_goals first | (exfalso; omega) | kernel_rfl
set_option maxRecDepth 100000 in
set_option maxHeartbeats 4000000 in
theorem GcrValue_a (x : ByteArray) (w : World) (hG : GG w) : Calls Tryz.prog 85 #[.string x] w fun e w' => e = .returned (.int .i64 (gvI (bl x))) ∧ w = w' := by
  obtain ⟨g, hgx⟩ : ∃ g, bl x = g := ⟨_, rfl⟩
  rw [hgx]
  obtain ⟨R, hR⟩ : ∃ R, gvI g = R := ⟨_, rfl⟩
  rw [hR]
  have HR := Lib.hid hR
  clear hR
  have c0 := hG.fw 0 (by omega)
  have c1 := hG.fw 1 (by omega)
  have c2 := hG.fw 2 (by omega)
  have c3 := hG.fw 3 (by omega)
  have c4 := hG.fw 4 (by omega)
  have c5 := hG.fw 5 (by omega)
  have c6 := hG.fw 6 (by omega)
  have c7 := hG.fw 7 (by omega)
  have c8 := hG.fw 8 (by omega)
  have c9 := hG.fw 9 (by omega)
  have c10 := hG.fw 10 (by omega)
  have c11 := hG.fw 11 (by omega)
  have c12 := hG.fw 12 (by omega)
  have c13 := hG.fw 13 (by omega)
  have c14 := hG.fw 14 (by omega)
  have c15 := hG.fw 15 (by omega)
  go_enter Tryz.func85, Tryz.ntmps85
  go_upto_region 2 with fail
  clear c0 c1 c2 c3 c4 c5 c6 c7 c8 c9 c10 c11 c12 c13 c14 c15
  have hget := gArr_run
  rw [show (#[.string (gS 0), .string (gS 1), .string (gS 2), .string (gS 3), .string (gS 4), .string (gS 5), .string (gS 6), .string (gS 7), .string (gS 8), .string (gS 9), .string (gS 10), .string (gS 11), .string (gS 12), .string (gS 13), .string (gS 14), .string (gS 15)] : Array Value) = gArr from rfl]
  generalize gArr = ar at hget ⊢
  go_loopw [3, 4, 6] (fun _ _ i wr => ∃ k : Nat, i = .int .i64 (k : Int) ∧ k ≤ 16 ∧ w = wr ∧ Hid (gvD g k = R)) (fun _ _ i _ => 16 - (intOf i).toNat)
  case atStart => exact ⟨0, rfl, by omega, (by first | rfl | trivial), Lib.hid ((gvD_0 g).trans HR.out)⟩
  case round =>
    obtain ⟨k, rfl, hk, rfl, HK⟩ := hrel
    by_cases hlt : k < 16
    · have hlti : decide ((k : Int) < 16) = true := decide_eq_true (by omega)
      have hltp : (k : Int) < 16 := by omega
      have hgk := hget k hlt
      have hst := str_eq (gS k) x
      rw [hgx] at hst
      by_cases he : gT.getD k [] = g
      · have hst1 : ((gS k).toList == x.toList) = true := by rw [hst]; exact decide_eq_true he
        have HN := Lib.hid (show R = (k : Int) by rw [← HK.out, gvD_s hlt, if_pos he])
        clear hst he
        go_wp2
        go_ret
        exact ⟨by rw [HN.out]; rfl, rfl⟩
      · have hst1 : ((gS k).toList == x.toList) = false := by rw [hst]; exact decide_eq_false he
        have HN := Lib.hid (show gvD g (k + 1) = R by rw [← HK.out, gvD_s hlt, if_neg he])
        clear hst he
        go_wp2
        go_roundw
        case rel => exact ⟨k + 1, by go_num, hlt, (by first | rfl | trivial), HN⟩
        case measure => (simp [intOf] <;> omega)
    · have hlti : decide ((k : Int) < 16) = false := decide_eq_false (by omega)
      have HN := Lib.hid (show R = -1 by rw [← HK.out, gvD_e g hlt])
      go_wp2
      go_ret
      exact ⟨by rw [HN.out]; rfl, rfl⟩
set_option maxRecDepth 100000 in
set_option maxHeartbeats 8000000 in
theorem gcrCells_a (s : ByteArray) (b : Nat) (w : World) (hs : s.size = 1) (hy : (s[0]'(by omega)).toNat = b) (hb : b = 8 ∨ b = 7 ∨ b = 6) (hG : GG w) :
    Calls Tryz.prog 79 #[.string s] w fun e w' => e = .returned (.string (str1 (gcrM b))) ∧ Below w.heap.size w w' := by
  have h0 : 0 < s.size := by omega
  have hI := Lib.fresh_isBuilder 106 5 w
  have h0w : 0 < w.heap.size := hG.lt
  obtain ⟨R, hR⟩ : ∃ R, gcrM b = R := ⟨_, rfl⟩
  rw [hR]
  have HR := Lib.hid hR
  have hf0 := hG.fw 0 (by omega)
  have hfb := hG.fw b (by omega)
  obtain ⟨x0, hx0⟩ : ∃ x, gS 0 = x := ⟨_, rfl⟩
  obtain ⟨xb, hxb⟩ : ∃ x, gS b = x := ⟨_, rfl⟩
  have s0 := gS_size 0
  have sb := gS_size b
  rw [hx0] at hf0 s0
  rw [hxb] at hfb sb
  obtain ⟨X, hX⟩ : ∃ X, x0 ++ xb = X := ⟨_, rfl⟩
  have HX0 : X = str1 R := by
    rw [← hX, ← hx0, ← hxb, ← hR]
    unfold gS gcrM
    rw [str_app, show b / 16 = 0 by omega, show b % 16 = b by omega]
  have HX := Lib.hid (show X.data.toList = R by rw [HX0]; rfl)
  have hXs : X.size ≤ 10 := by rw [← hX, ByteArray.size_append]; omega
  have hbig : ¬ 9223372036854775807 < x0.size + xb.size := by omega
  have hbl : (Lib.byteCells []).length + X.size ≤ 140737488355328 := by simp [Lib.byteCells]; omega
  clear HX0 hR hx0 hxb s0 sb hXs
  have hbody : ∀ b0 : Nat, b0 = b → True := fun _ _ => trivial
  go_enter Tryz.func79, Tryz.ntmps79
  go_wp2
  have hx1 : Below w.heap.size w (w.alloc (.cells #[.pointer none, .slice none 0 0] 106)) := below_alloc (Below.refl _ _) _
  generalize (w.alloc (.cells #[.pointer none, .slice none 0 0] 106)) = w1 at hI hx1 ⊢
  go_loopw [4, 7] (fun _ i wr => ∃ (k : Nat) (l : List UInt8), i = .int .i64 (k : Int) ∧ Lib.IsBuilder 106 5 w.heap.size w.heap.size (Lib.byteCells l) wr ∧ Below w.heap.size w wr ∧ ((k = 0 ∧ l = []) ∨ (k = 1 ∧ Hid (l = R)))) (fun _ i _ => 1 - (intOf i).toNat)
  case atStart => exact ⟨0, [], rfl, hI, hx1, .inl ⟨rfl, rfl⟩⟩
  case round =>
    obtain ⟨k, l, rfl, hB, hx, hk⟩ := hrel
    clear hI hx1
    have hBw := hx.size
    rcases hk with ⟨rfl, rfl⟩ | ⟨rfl, HL⟩
    · have c0 := (hx.cell (p := ⟨0, 0, none⟩) h0w).trans hf0
      have cb := (hx.cell (p := ⟨0, b, none⟩) h0w).trans hfb
      clear hf0 hfb hG
      rcases hb with rfl | rfl | rfl
      · have hba : bits .and .u8 8 15 = 8 := by decide
        go_wp2_with fail
        refine wp_region_held_drew (S := (fun W => W.cell? ⟨0, 0, none⟩ = some (.string x0) ∧ W.cell? ⟨0, 8, none⟩ = some (.string xb))) (by kernel_rfl) ?hS1 (fun hHeld => ?rest2)
        case hS1 => (exact ⟨c0, cb⟩)
        refine wpAnyH_take (i := 0) (oi := _) (v := ?v3) rfl (by kernel_rfl) (by kernel_rfl) (by kernel_rfl) (fun _ _ _ h => h) (Or.inl ⟨by rfl, ?hy4⟩) hHeld ?rest5
        case hy4 => (intro w hSw; (try dsimp only at hSw); go_simp; (try with_reducible rfl))
        try simp only [Act.put, List.setIfInBounds_toArray, List.set_cons_zero, List.set_cons_succ]
        refine wpAnyH_take (i := 1) (oi := _) (v := ?v6) rfl (by kernel_rfl) (by kernel_rfl) (by kernel_rfl) (fun _ _ _ h => h) (Or.inl ⟨by rfl, ?hy7⟩) hHeld ?rest8
        case hy7 => (intro w hSw; (try dsimp only at hSw); go_simp; (try with_reducible rfl))
        try simp only [Act.put, List.setIfInBounds_toArray, List.set_cons_zero, List.set_cons_succ]
        refine wpAnyH_take (i := 2) (oi := _) (v := ?v9) rfl (by kernel_rfl) (by kernel_rfl) (by kernel_rfl) (fun _ _ _ h => h) (Or.inl ⟨by rfl, ?hy10⟩) hHeld ?rest11
        case hy10 => (intro w hSw; (try dsimp only at hSw); go_simp; (try with_reducible rfl))
        try simp only [Act.put, List.setIfInBounds_toArray, List.set_cons_zero, List.set_cons_succ]
        refine wpAnyH_take (i := 3) (oi := _) (v := ?v12) rfl (by kernel_rfl) (by kernel_rfl) (by kernel_rfl) (fun _ _ _ h => h) (Or.inl ⟨by rfl, ?hy13⟩) hHeld ?rest14
        case hy13 => (intro w hSw; (try dsimp only at hSw); go_simp; (try with_reducible rfl))
        try simp only [Act.put, List.setIfInBounds_toArray, List.set_cons_zero, List.set_cons_succ]
        refine wpAnyH_take (i := 4) (oi := _) (v := ?v15) rfl (by kernel_rfl) (by kernel_rfl) (by kernel_rfl) (fun _ _ _ h => h) (Or.inl ⟨by rfl, ?hy16⟩) hHeld ?rest17
        case hy16 => (intro w hSw; (try dsimp only at hSw); go_simp; (try with_reducible rfl))
        try simp only [Act.put, List.setIfInBounds_toArray, List.set_cons_zero, List.set_cons_succ]
        refine wpAnyH_take (i := 5) (oi := _) (v := ?v18) rfl (by kernel_rfl) (by kernel_rfl) (by kernel_rfl) (fun _ _ _ h => h) (Or.inl ⟨by rfl, ?hy19⟩) hHeld ?rest20
        case hy19 => (intro w hSw; (try dsimp only at hSw); go_simp; (try with_reducible rfl))
        try simp only [Act.put, List.setIfInBounds_toArray, List.set_cons_zero, List.set_cons_succ]
        refine wpAnyH_take (i := 6) (oi := _) (v := ?v21) rfl (by kernel_rfl) (by kernel_rfl) (by kernel_rfl) (fun _ _ _ h => h) (Or.inl ⟨by rfl, ?hy22⟩) hHeld ?rest23
        case hy22 => (intro w hSw; (try dsimp only at hSw); go_simp; (try with_reducible rfl))
        try simp only [Act.put, List.setIfInBounds_toArray, List.set_cons_zero, List.set_cons_succ]
        refine wpAnyH_take (i := 7) (oi := _) (v := ?v24) rfl (by kernel_rfl) (by kernel_rfl) (by kernel_rfl) (fun _ _ _ h => h) (Or.inl ⟨by rfl, ?hy25⟩) hHeld ?rest26
        case hy25 => (intro w hSw; (try dsimp only at hSw); go_simp; (try with_reducible rfl))
        try simp only [Act.put, List.setIfInBounds_toArray, List.set_cons_zero, List.set_cons_succ]
        refine wpAnyH_take (i := 8) (oi := _) (v := ?v27) rfl (by kernel_rfl) (by kernel_rfl) (by kernel_rfl) (fun _ _ _ h => h) (Or.inl ⟨by rfl, ?hy28⟩) hHeld ?rest29
        case hy28 => (intro w hSw; (try dsimp only at hSw); go_simp; (try with_reducible rfl))
        try simp only [Act.put, List.setIfInBounds_toArray, List.set_cons_zero, List.set_cons_succ]
        refine wpAnyH_take (i := 9) (oi := _) (v := ?v30) rfl (by kernel_rfl) (by kernel_rfl) (by kernel_rfl) (fun _ _ _ h => h) (Or.inl ⟨by rfl, ?hy31⟩) hHeld ?rest32
        case hy31 => (intro w hSw; (try dsimp only at hSw); go_simp; (try with_reducible rfl))
        try simp only [Act.put, List.setIfInBounds_toArray, List.set_cons_zero, List.set_cons_succ]
        refine wpAnyH_take (i := 10) (oi := _) (v := ?v33) rfl (by kernel_rfl) (by kernel_rfl) (by kernel_rfl) (fun _ _ _ h => h) (Or.inl ⟨by rfl, ?hy34⟩) hHeld ?rest35
        case hy34 => (intro w hSw; (try dsimp only at hSw); go_simp; (try with_reducible rfl))
        try simp only [Act.put, List.setIfInBounds_toArray, List.set_cons_zero, List.set_cons_succ]
        refine wpAnyH_take (i := 11) (oi := _) (v := ?v36) rfl (by kernel_rfl) (by kernel_rfl) (by kernel_rfl) (fun _ _ _ h => h) (Or.inl ⟨by rfl, ?hy37⟩) hHeld ?rest38
        case hy37 => (intro w hSw; (try dsimp only at hSw); go_simp; (try with_reducible rfl))
        try simp only [Act.put, List.setIfInBounds_toArray, List.set_cons_zero, List.set_cons_succ]
        refine wpAnyH_take (i := 12) (oi := _) (v := ?v39) rfl (by kernel_rfl) (by kernel_rfl) (by kernel_rfl) (fun _ _ _ h => h) (Or.inl ⟨by rfl, ?hy40⟩) hHeld ?rest41
        case hy40 => (intro w hSw; (try dsimp only at hSw); go_simp; (try with_reducible rfl))
        try simp only [Act.put, List.setIfInBounds_toArray, List.set_cons_zero, List.set_cons_succ]
        refine wpAnyH_ready (rs := [13]) (by kernel_rfl) (by simp) ?_
        refine AllReadyH.cons (o := _) rfl (fun K hK => ?stp42) ?more43
        case stp42 =>
          go_simp
          refine (WriteString_any w.heap.size w.heap.size _ X wr.drew hB hbl hBw).mono ?_
          rintro e w2 ⟨rfl, hw2, hx2⟩
          have hx2 : Below w.heap.size wr.drew w2 := hx2
          (try go_wp2_with fail)
          refine hK.out _ _ ?hS44 (fun hHeld2 => ?rest45)
          case hS44 => (exact ⟨(hx2.cell (p := ⟨0, 0, none⟩) h0w).trans hHeld.1, (hx2.cell (p := ⟨0, 8, none⟩) h0w).trans hHeld.2⟩)
          clear hK K hHeld
          have hHeld := hHeld2
          clear hHeld2
          try simp only [Act.put, List.setIfInBounds_toArray, List.set_cons_zero, List.set_cons_succ]
          refine wpAnyH_done (by kernel_rfl) ?_ _
          go_wp2_with fail
          go_roundw
          case rel => exact ⟨1, _, by go_num, .inr hw2, (Below.drew hx).trans hx2, .inr ⟨rfl, HX⟩⟩
          case measure => simp [intOf]
        exact AllReadyH.nil
      · have hba : bits .and .u8 7 15 = 7 := by decide
        go_wp2_with fail
        refine wp_region_held_drew (S := (fun W => W.cell? ⟨0, 0, none⟩ = some (.string x0) ∧ W.cell? ⟨0, 7, none⟩ = some (.string xb))) (by kernel_rfl) ?hS46 (fun hHeld => ?rest47)
        case hS46 => (exact ⟨c0, cb⟩)
        refine wpAnyH_take (i := 0) (oi := _) (v := ?v48) rfl (by kernel_rfl) (by kernel_rfl) (by kernel_rfl) (fun _ _ _ h => h) (Or.inl ⟨by rfl, ?hy49⟩) hHeld ?rest50
        case hy49 => (intro w hSw; (try dsimp only at hSw); go_simp; (try with_reducible rfl))
        try simp only [Act.put, List.setIfInBounds_toArray, List.set_cons_zero, List.set_cons_succ]
        refine wpAnyH_take (i := 1) (oi := _) (v := ?v51) rfl (by kernel_rfl) (by kernel_rfl) (by kernel_rfl) (fun _ _ _ h => h) (Or.inl ⟨by rfl, ?hy52⟩) hHeld ?rest53
        case hy52 => (intro w hSw; (try dsimp only at hSw); go_simp; (try with_reducible rfl))
        try simp only [Act.put, List.setIfInBounds_toArray, List.set_cons_zero, List.set_cons_succ]
        refine wpAnyH_take (i := 2) (oi := _) (v := ?v54) rfl (by kernel_rfl) (by kernel_rfl) (by kernel_rfl) (fun _ _ _ h => h) (Or.inl ⟨by rfl, ?hy55⟩) hHeld ?rest56
        case hy55 => (intro w hSw; (try dsimp only at hSw); go_simp; (try with_reducible rfl))
        try simp only [Act.put, List.setIfInBounds_toArray, List.set_cons_zero, List.set_cons_succ]
        refine wpAnyH_take (i := 3) (oi := _) (v := ?v57) rfl (by kernel_rfl) (by kernel_rfl) (by kernel_rfl) (fun _ _ _ h => h) (Or.inl ⟨by rfl, ?hy58⟩) hHeld ?rest59
        case hy58 => (intro w hSw; (try dsimp only at hSw); go_simp; (try with_reducible rfl))
        try simp only [Act.put, List.setIfInBounds_toArray, List.set_cons_zero, List.set_cons_succ]
        refine wpAnyH_take (i := 4) (oi := _) (v := ?v60) rfl (by kernel_rfl) (by kernel_rfl) (by kernel_rfl) (fun _ _ _ h => h) (Or.inl ⟨by rfl, ?hy61⟩) hHeld ?rest62
        case hy61 => (intro w hSw; (try dsimp only at hSw); go_simp; (try with_reducible rfl))
        try simp only [Act.put, List.setIfInBounds_toArray, List.set_cons_zero, List.set_cons_succ]
        refine wpAnyH_take (i := 5) (oi := _) (v := ?v63) rfl (by kernel_rfl) (by kernel_rfl) (by kernel_rfl) (fun _ _ _ h => h) (Or.inl ⟨by rfl, ?hy64⟩) hHeld ?rest65
        case hy64 => (intro w hSw; (try dsimp only at hSw); go_simp; (try with_reducible rfl))
        try simp only [Act.put, List.setIfInBounds_toArray, List.set_cons_zero, List.set_cons_succ]
        refine wpAnyH_take (i := 6) (oi := _) (v := ?v66) rfl (by kernel_rfl) (by kernel_rfl) (by kernel_rfl) (fun _ _ _ h => h) (Or.inl ⟨by rfl, ?hy67⟩) hHeld ?rest68
        case hy67 => (intro w hSw; (try dsimp only at hSw); go_simp; (try with_reducible rfl))
        try simp only [Act.put, List.setIfInBounds_toArray, List.set_cons_zero, List.set_cons_succ]
        refine wpAnyH_take (i := 7) (oi := _) (v := ?v69) rfl (by kernel_rfl) (by kernel_rfl) (by kernel_rfl) (fun _ _ _ h => h) (Or.inl ⟨by rfl, ?hy70⟩) hHeld ?rest71
        case hy70 => (intro w hSw; (try dsimp only at hSw); go_simp; (try with_reducible rfl))
        try simp only [Act.put, List.setIfInBounds_toArray, List.set_cons_zero, List.set_cons_succ]
        refine wpAnyH_take (i := 8) (oi := _) (v := ?v72) rfl (by kernel_rfl) (by kernel_rfl) (by kernel_rfl) (fun _ _ _ h => h) (Or.inl ⟨by rfl, ?hy73⟩) hHeld ?rest74
        case hy73 => (intro w hSw; (try dsimp only at hSw); go_simp; (try with_reducible rfl))
        try simp only [Act.put, List.setIfInBounds_toArray, List.set_cons_zero, List.set_cons_succ]
        refine wpAnyH_take (i := 9) (oi := _) (v := ?v75) rfl (by kernel_rfl) (by kernel_rfl) (by kernel_rfl) (fun _ _ _ h => h) (Or.inl ⟨by rfl, ?hy76⟩) hHeld ?rest77
        case hy76 => (intro w hSw; (try dsimp only at hSw); go_simp; (try with_reducible rfl))
        try simp only [Act.put, List.setIfInBounds_toArray, List.set_cons_zero, List.set_cons_succ]
        refine wpAnyH_take (i := 10) (oi := _) (v := ?v78) rfl (by kernel_rfl) (by kernel_rfl) (by kernel_rfl) (fun _ _ _ h => h) (Or.inl ⟨by rfl, ?hy79⟩) hHeld ?rest80
        case hy79 => (intro w hSw; (try dsimp only at hSw); go_simp; (try with_reducible rfl))
        try simp only [Act.put, List.setIfInBounds_toArray, List.set_cons_zero, List.set_cons_succ]
        refine wpAnyH_take (i := 11) (oi := _) (v := ?v81) rfl (by kernel_rfl) (by kernel_rfl) (by kernel_rfl) (fun _ _ _ h => h) (Or.inl ⟨by rfl, ?hy82⟩) hHeld ?rest83
        case hy82 => (intro w hSw; (try dsimp only at hSw); go_simp; (try with_reducible rfl))
        try simp only [Act.put, List.setIfInBounds_toArray, List.set_cons_zero, List.set_cons_succ]
        refine wpAnyH_take (i := 12) (oi := _) (v := ?v84) rfl (by kernel_rfl) (by kernel_rfl) (by kernel_rfl) (fun _ _ _ h => h) (Or.inl ⟨by rfl, ?hy85⟩) hHeld ?rest86
        case hy85 => (intro w hSw; (try dsimp only at hSw); go_simp; (try with_reducible rfl))
        try simp only [Act.put, List.setIfInBounds_toArray, List.set_cons_zero, List.set_cons_succ]
        refine wpAnyH_ready (rs := [13]) (by kernel_rfl) (by simp) ?_
        refine AllReadyH.cons (o := _) rfl (fun K hK => ?stp87) ?more88
        case stp87 =>
          go_simp
          refine (WriteString_any w.heap.size w.heap.size _ X wr.drew hB hbl hBw).mono ?_
          rintro e w2 ⟨rfl, hw2, hx2⟩
          have hx2 : Below w.heap.size wr.drew w2 := hx2
          (try go_wp2_with fail)
          refine hK.out _ _ ?hS89 (fun hHeld2 => ?rest90)
          case hS89 => (exact ⟨(hx2.cell (p := ⟨0, 0, none⟩) h0w).trans hHeld.1, (hx2.cell (p := ⟨0, 7, none⟩) h0w).trans hHeld.2⟩)
          clear hK K hHeld
          have hHeld := hHeld2
          clear hHeld2
          try simp only [Act.put, List.setIfInBounds_toArray, List.set_cons_zero, List.set_cons_succ]
          refine wpAnyH_done (by kernel_rfl) ?_ _
          go_wp2_with fail
          go_roundw
          case rel => exact ⟨1, _, by go_num, .inr hw2, (Below.drew hx).trans hx2, .inr ⟨rfl, HX⟩⟩
          case measure => simp [intOf]
        exact AllReadyH.nil
      · have hba : bits .and .u8 6 15 = 6 := by decide
        go_wp2_with fail
        refine wp_region_held_drew (S := (fun W => W.cell? ⟨0, 0, none⟩ = some (.string x0) ∧ W.cell? ⟨0, 6, none⟩ = some (.string xb))) (by kernel_rfl) ?hS91 (fun hHeld => ?rest92)
        case hS91 => (exact ⟨c0, cb⟩)
        refine wpAnyH_take (i := 0) (oi := _) (v := ?v93) rfl (by kernel_rfl) (by kernel_rfl) (by kernel_rfl) (fun _ _ _ h => h) (Or.inl ⟨by rfl, ?hy94⟩) hHeld ?rest95
        case hy94 => (intro w hSw; (try dsimp only at hSw); go_simp; (try with_reducible rfl))
        try simp only [Act.put, List.setIfInBounds_toArray, List.set_cons_zero, List.set_cons_succ]
        refine wpAnyH_take (i := 1) (oi := _) (v := ?v96) rfl (by kernel_rfl) (by kernel_rfl) (by kernel_rfl) (fun _ _ _ h => h) (Or.inl ⟨by rfl, ?hy97⟩) hHeld ?rest98
        case hy97 => (intro w hSw; (try dsimp only at hSw); go_simp; (try with_reducible rfl))
        try simp only [Act.put, List.setIfInBounds_toArray, List.set_cons_zero, List.set_cons_succ]
        refine wpAnyH_take (i := 2) (oi := _) (v := ?v99) rfl (by kernel_rfl) (by kernel_rfl) (by kernel_rfl) (fun _ _ _ h => h) (Or.inl ⟨by rfl, ?hy100⟩) hHeld ?rest101
        case hy100 => (intro w hSw; (try dsimp only at hSw); go_simp; (try with_reducible rfl))
        try simp only [Act.put, List.setIfInBounds_toArray, List.set_cons_zero, List.set_cons_succ]
        refine wpAnyH_take (i := 3) (oi := _) (v := ?v102) rfl (by kernel_rfl) (by kernel_rfl) (by kernel_rfl) (fun _ _ _ h => h) (Or.inl ⟨by rfl, ?hy103⟩) hHeld ?rest104
        case hy103 => (intro w hSw; (try dsimp only at hSw); go_simp; (try with_reducible rfl))
        try simp only [Act.put, List.setIfInBounds_toArray, List.set_cons_zero, List.set_cons_succ]
        refine wpAnyH_take (i := 4) (oi := _) (v := ?v105) rfl (by kernel_rfl) (by kernel_rfl) (by kernel_rfl) (fun _ _ _ h => h) (Or.inl ⟨by rfl, ?hy106⟩) hHeld ?rest107
        case hy106 => (intro w hSw; (try dsimp only at hSw); go_simp; (try with_reducible rfl))
        try simp only [Act.put, List.setIfInBounds_toArray, List.set_cons_zero, List.set_cons_succ]
        refine wpAnyH_take (i := 5) (oi := _) (v := ?v108) rfl (by kernel_rfl) (by kernel_rfl) (by kernel_rfl) (fun _ _ _ h => h) (Or.inl ⟨by rfl, ?hy109⟩) hHeld ?rest110
        case hy109 => (intro w hSw; (try dsimp only at hSw); go_simp; (try with_reducible rfl))
        try simp only [Act.put, List.setIfInBounds_toArray, List.set_cons_zero, List.set_cons_succ]
        refine wpAnyH_take (i := 6) (oi := _) (v := ?v111) rfl (by kernel_rfl) (by kernel_rfl) (by kernel_rfl) (fun _ _ _ h => h) (Or.inl ⟨by rfl, ?hy112⟩) hHeld ?rest113
        case hy112 => (intro w hSw; (try dsimp only at hSw); go_simp; (try with_reducible rfl))
        try simp only [Act.put, List.setIfInBounds_toArray, List.set_cons_zero, List.set_cons_succ]
        refine wpAnyH_take (i := 7) (oi := _) (v := ?v114) rfl (by kernel_rfl) (by kernel_rfl) (by kernel_rfl) (fun _ _ _ h => h) (Or.inl ⟨by rfl, ?hy115⟩) hHeld ?rest116
        case hy115 => (intro w hSw; (try dsimp only at hSw); go_simp; (try with_reducible rfl))
        try simp only [Act.put, List.setIfInBounds_toArray, List.set_cons_zero, List.set_cons_succ]
        refine wpAnyH_take (i := 8) (oi := _) (v := ?v117) rfl (by kernel_rfl) (by kernel_rfl) (by kernel_rfl) (fun _ _ _ h => h) (Or.inl ⟨by rfl, ?hy118⟩) hHeld ?rest119
        case hy118 => (intro w hSw; (try dsimp only at hSw); go_simp; (try with_reducible rfl))
        try simp only [Act.put, List.setIfInBounds_toArray, List.set_cons_zero, List.set_cons_succ]
        refine wpAnyH_take (i := 9) (oi := _) (v := ?v120) rfl (by kernel_rfl) (by kernel_rfl) (by kernel_rfl) (fun _ _ _ h => h) (Or.inl ⟨by rfl, ?hy121⟩) hHeld ?rest122
        case hy121 => (intro w hSw; (try dsimp only at hSw); go_simp; (try with_reducible rfl))
        try simp only [Act.put, List.setIfInBounds_toArray, List.set_cons_zero, List.set_cons_succ]
        refine wpAnyH_take (i := 10) (oi := _) (v := ?v123) rfl (by kernel_rfl) (by kernel_rfl) (by kernel_rfl) (fun _ _ _ h => h) (Or.inl ⟨by rfl, ?hy124⟩) hHeld ?rest125
        case hy124 => (intro w hSw; (try dsimp only at hSw); go_simp; (try with_reducible rfl))
        try simp only [Act.put, List.setIfInBounds_toArray, List.set_cons_zero, List.set_cons_succ]
        refine wpAnyH_take (i := 11) (oi := _) (v := ?v126) rfl (by kernel_rfl) (by kernel_rfl) (by kernel_rfl) (fun _ _ _ h => h) (Or.inl ⟨by rfl, ?hy127⟩) hHeld ?rest128
        case hy127 => (intro w hSw; (try dsimp only at hSw); go_simp; (try with_reducible rfl))
        try simp only [Act.put, List.setIfInBounds_toArray, List.set_cons_zero, List.set_cons_succ]
        refine wpAnyH_take (i := 12) (oi := _) (v := ?v129) rfl (by kernel_rfl) (by kernel_rfl) (by kernel_rfl) (fun _ _ _ h => h) (Or.inl ⟨by rfl, ?hy130⟩) hHeld ?rest131
        case hy130 => (intro w hSw; (try dsimp only at hSw); go_simp; (try with_reducible rfl))
        try simp only [Act.put, List.setIfInBounds_toArray, List.set_cons_zero, List.set_cons_succ]
        refine wpAnyH_ready (rs := [13]) (by kernel_rfl) (by simp) ?_
        refine AllReadyH.cons (o := _) rfl (fun K hK => ?stp132) ?more133
        case stp132 =>
          go_simp
          refine (WriteString_any w.heap.size w.heap.size _ X wr.drew hB hbl hBw).mono ?_
          rintro e w2 ⟨rfl, hw2, hx2⟩
          have hx2 : Below w.heap.size wr.drew w2 := hx2
          (try go_wp2_with fail)
          refine hK.out _ _ ?hS134 (fun hHeld2 => ?rest135)
          case hS134 => (exact ⟨(hx2.cell (p := ⟨0, 0, none⟩) h0w).trans hHeld.1, (hx2.cell (p := ⟨0, 6, none⟩) h0w).trans hHeld.2⟩)
          clear hK K hHeld
          have hHeld := hHeld2
          clear hHeld2
          try simp only [Act.put, List.setIfInBounds_toArray, List.set_cons_zero, List.set_cons_succ]
          refine wpAnyH_done (by kernel_rfl) ?_ _
          go_wp2_with fail
          go_roundw
          case rel => exact ⟨1, _, by go_num, .inr hw2, (Below.drew hx).trans hx2, .inr ⟨rfl, HX⟩⟩
          case measure => simp [intOf]
        exact AllReadyH.nil
    · go_wp2_with (go_at_call 103; go_must (refine (Tryz.Builder_String_any w.heap.size w.heap.size l _ hB hBw).mono ?_); rintro e w2 ⟨rfl, hx2⟩)
      go_ret
      exact ⟨by rw [HL.out]; rfl, hx.trans hx2⟩
end Go.Proofs.YtlfmpgfobkmgfaaGreatDoor
namespace Go.Proofs.YtlfmpgfobkmgfaaGreatDoor
open Go.RowKit Go.Deep
set_option linter.unusedVariables false
set_option linter.unusedSimpArgs false

set_option maxRecDepth 100000 in
set_option maxHeartbeats 4000000 in
theorem markCells_a (f : Int) (k : Nat) (w : World) (hf : f = 1 ∨ f = 2 ∨ f = 3) (hk : k = 1 ∨ k = 2 ∨ k = 3) (hG : GG w) : Calls Tryz.prog 49 #[.int .i64 f, .int .i64 (k : Int)] w fun e w' => e = .returned (.string (str1 (markL f k))) ∧ Below w.heap.size w w' := by
  have lb := fun W => MarkByte_a f k W hf hk
  obtain ⟨b, hb⟩ : ∃ b, mbN f k = b := ⟨_, rfl⟩
  have hb2 : b < 256 := by rw [← hb]; exact mbN_lt f k hk
  rw [hb] at lb
  have HB := Lib.hid hb
  clear hb
  have hwb : IntKind.u8.wrap (b : Int) = (b : Int) := IntWalk.u8_in _ (by omega)
  have hc1 := fun W => run_b1 b hb2 W
  have hs1 : (str1 [UInt8.ofNat b]).size = 1 := by rw [str1_size]; rfl
  have h1b := one0 b hb2
  have hc2 := hc1 w
  have hB1 : BB w (w.alloc (.cells #[.int .u8 (b : Int)] 5)) := BB.al (BB.start w) _
  obtain ⟨z, hz⟩ : ∃ z, str1 [UInt8.ofNat b] = z := ⟨_, rfl⟩
  simp only [hz] at hc1 hc2 hs1 h1b
  rcases hf with rfl | rfl | rfl
  · have fm := fun W => fmCells_a z W hs1
    simp only [h1b] at fm
    have HR := Lib.hid (show str1 (markL 1 k) = str1 (fmK (bitL b 8) 8) by unfold markL patL; rw [if_neg (by decide), if_pos rfl, ← HB.out, fm_I k hk])
    clear hs1 h1b hz
    go_enter Tryz.func49, Tryz.ntmps49
    go_wp2_with (first
      | (go_at_call 75; (with_reducible refine (lb _).mono ?_); rintro e w1 ⟨rfl, rfl⟩)
      | (go_at_call 76; (refine (fm _).mono ?_); rintro e w2 ⟨rfl, hx2⟩; have hB2 : BB w w2 := BB.next hB1 hx2))
    go_ret
    exact ⟨by rw [HR.out]; rfl, hB2⟩
  · have em := fun W => mfmCells_a z W hs1
    simp only [h1b] at em
    have hl16 : (mfL true (bitL b 8)).length = 16 := by rw [← HB.out, mf_I k hk, encL_len]
    obtain ⟨x, hx⟩ : ∃ x, str1 (mfL true (bitL b 8)) = x := ⟨_, rfl⟩
    have hxs : x.size = 16 := by rw [← hx, str1_size, hl16]
    obtain ⟨m, hm⟩ : ∃ m : ByteArray, (⟨#[48, 49, 48, 48, 48, 49, 48, 48, 49, 48, 48, 48, 49, 48, 48, 49]⟩ : ByteArray) = m := ⟨_, rfl⟩
    have hms : m.size = 16 := by rw [← hm]; rfl
    have rp := fun W => Tryz.strings_Repeat m 3 W (by decide) (by rw [hms]; decide)
    obtain ⟨y, hy⟩ : ∃ y : ByteArray, (⟨(Lib.repeatL m.data.toList 3).toArray⟩ : ByteArray) = y := ⟨_, rfl⟩
    have hys : y.size = 48 := by
      rw [← hy]
      show (Lib.repeatL m.data.toList 3).toArray.size = 48
      rw [List.size_toArray, Lib.repeatL_length, Array.length_toList]
      have : m.data.size = 16 := hms
      rw [this]
    rw [hy] at rp
    rw [hx] at em
    have rp : ∀ W, Calls Tryz.prog 77 #[.string m, .int .i64 3] W (fun e w' => e = .returned (.string y) ∧ Below W.heap.size W w') := rp
    have HE := Lib.hid (show str1 (markL 2 k) = y ++ x by
      have e1 : y = str1 (mfm16 ++ (mfm16 ++ mfm16)) := by rw [← hy, ← hm]; rfl
      rw [e1, ← hx, str_app, ← HB.out, mf_I k hk]
      unfold markL patL mfmM mfm16
      rw [if_neg (by decide), if_neg (by decide), if_pos rfl, List.append_assoc, List.append_assoc])
    have s1 : ¬ 9223372036854775807 < y.size + x.size := by omega
    clear hs1 h1b hz hl16 hx hy hxs hys hms
    rw [← hm] at rp
    clear hm
    go_enter Tryz.func49, Tryz.ntmps49
    go_wp2_with (first
      | (go_at_call 75; (with_reducible refine (lb _).mono ?_); rintro e w1 ⟨rfl, rfl⟩)
      | (go_at_call 77; (refine (rp _).mono ?_); rintro e w3 ⟨rfl, hx3⟩; have hB3 : BB w w3 := BB.next hB1 hx3)
      | (go_at_call 78; (refine (em _).mono ?_); rintro e w2 ⟨rfl, hx2⟩; have hB2 : BB w w2 := BB.next hB3 hx2))
    go_ret
    exact ⟨by rw [HE.out]; rfl, hB2⟩
  · have hb876 : b = 8 ∨ b = 7 ∨ b = 6 := by rw [← HB.out]; unfold mbN; rw [if_pos rfl]; omega
    have em := fun W (hW : GG W) => gcrCells_a z b W hs1 h1b hb876 hW
    have hl10 : (gcrM b).length ≤ 10 := by
      unfold gcrM
      rw [List.length_append]
      have h1 := gT_len (b / 16)
      have h2 := gT_len (b % 16)
      omega
    obtain ⟨x, hx⟩ : ∃ x, str1 (gcrM b) = x := ⟨_, rfl⟩
    have hxs : x.size ≤ 10 := by rw [← hx, str1_size]; exact hl10
    have rp := fun W => Tryz.strings_Repeat ⟨#[49]⟩ 10 W (by decide) (by decide)
    obtain ⟨y, hy⟩ : ∃ y : ByteArray, (⟨(Lib.repeatL (⟨#[49]⟩ : ByteArray).data.toList 10).toArray⟩ : ByteArray) = y := ⟨_, rfl⟩
    have hye : y = str1 onesL := by rw [← hy]; rfl
    have hys : y.size = 10 := by rw [hye]; rfl
    rw [hy] at rp
    rw [hx] at em
    have rp : ∀ W, Calls Tryz.prog 77 #[.string ⟨#[49]⟩, .int .i64 10] W (fun e w' => e = .returned (.string y) ∧ Below W.heap.size W w') := rp
    have HE := Lib.hid (show str1 (markL 3 k) = y ++ x by
      rw [hye, ← hx, str_app, ← HB.out]
      unfold markL patL
      rw [if_pos rfl, if_neg (by decide), if_neg (by decide)])
    have s1 : ¬ 9223372036854775807 < y.size + x.size := by omega
    clear hs1 h1b hz hx hy hxs hye hys hl10 hb876
    go_enter Tryz.func49, Tryz.ntmps49
    go_wp2_with (first
      | (go_at_call 75; (with_reducible refine (lb _).mono ?_); rintro e w1 ⟨rfl, rfl⟩)
      | (go_at_call 77; (refine (rp _).mono ?_); rintro e w3 ⟨rfl, hx3⟩; have hB3 : BB w w3 := BB.next hB1 hx3)
      | (go_at_call 79; (refine (em _ (hG.bb hB3)).mono ?_); rintro e w2 ⟨rfl, hx2⟩; have hB2 : BB w w2 := BB.next hB3 hx2))
    go_ret
    exact ⟨by rw [HE.out]; rfl, hB2⟩
end Go.Proofs.YtlfmpgfobkmgfaaGreatDoor
namespace Go.Proofs.YtlfmpgfobkmgfaaGreatDoor
open Go.RowKit Go.Deep
set_option linter.unusedVariables false
set_option linter.unusedSimpArgs false

theorem flatK_flat (l : List MK) : (Go.Sort.flatK fM 3 l.toArray).toList = flat fM l := by
  apply List.ext_getElem?
  intro t
  have hsz : (Go.Sort.flatK fM 3 l.toArray).size = l.length * 3 := by rw [Go.Sort.size_flatK]; rfl
  by_cases ht : t < l.length * 3
  · have hk : t / 3 < l.length := by omega
    have h1 := flat_get fM 3 fM_len l (t / 3) (t % 3) hk (Nat.mod_lt _ (by omega))
    rw [show t / 3 * 3 + t % 3 = t by omega] at h1
    rw [h1]
    have h2 := Go.Sort.get_flatK fM 3 l.toArray t ht
    have hs : t < (Go.Sort.flatK fM 3 l.toArray).size := by rw [hsz]; exact ht
    rw [getElem!_pos _ t hs] at h2
    rw [Array.getElem?_toList, Array.getElem?_eq_getElem hs, h2]
    have h3 : (l.toArray[t / 3]! : MK) = l[t / 3] := by
      rw [getElem!_pos l.toArray (t / 3) hk]
      rfl
    rw [h3]
    have h4 : t % 3 < (fM l[t / 3]).length := by rw [fM_len]; omega
    rw [getElem!_pos (fM l[t / 3]) (t % 3) h4, List.getElem?_eq_getElem h4]
  · rw [List.getElem?_eq_none (by rw [Array.length_toList, hsz]; omega), List.getElem?_eq_none (by rw [flat_length fM 3 fM_len]; omega)]
theorem holds_V {w : World} {g : Nat} {cur : Array Value} {e : TypeId} {F : Array Value} (hb : w.heap[g]? = some (.cells cur e (0, 0))) (ht : cur.toList.take F.size = F.toList) : Go.Sort.Holds id w g 0 F := by
  intro j hj
  refine ⟨?_, by simp [World.frozen?, hb]⟩
  have h1 : (cur.toList.take F.size)[j]? = F.toList[j]? := by rw [ht]
  rw [List.getElem?_take_of_lt hj] at h1
  simp only [World.cell?, hb, Nat.zero_add]
  simp only [Option.isSome_none, Bool.false_eq_true, if_false]
  rw [← Array.getElem?_toList, h1]
  simp [hj]
theorem heap_V {w : World} {g n : Nat} {os : Array Obj} {cur : Array Value} {e : TypeId} {fr : Nat × Nat} (d : Array Value) (hb : w.heap[g]? = some (.cells cur e fr)) :
    (Go.Sort.grow (Go.Sort.putRow id (Go.Sort.ahead w n) g 0 d) os).heap[g]? = some (.cells (Go.Sort.putCells id 0 d cur) e fr) := by
  have hg : g < w.heap.size := (Array.getElem?_eq_some_iff.1 hb).1
  rw [Go.Sort.heap_grow_old _ _ (by simpa using hg)]
  simp [Go.Sort.putRow, Go.Sort.mapBlock, Go.Sort.ahead, Array.getElem?_modify, hb, Go.Sort.onCells]
theorem grownBy_V {w : World} {g n : Nat} {os : Array Obj} (d : Array Value) : w.grownBy (Go.Sort.grow (Go.Sort.putRow id (Go.Sort.ahead w n) g 0 d) os) (some g) := by
  refine ⟨rfl, rfl, rfl, by simp, fun k hk hne => ?_⟩
  rw [Go.Sort.heap_grow_old _ _ (by simpa using hk)]
  have : g ≠ k := fun e => hne (by rw [e])
  simp [Go.Sort.putRow, Go.Sort.mapBlock, Go.Sort.ahead, Array.getElem?_modify, this]
theorem take_V (cur F : Array Value) (h : F.size ≤ cur.size) : (Go.Sort.putCells id 0 F cur).toList.take F.size = F.toList := by
  apply List.ext_getElem?
  intro j
  by_cases hj : j < F.size
  · rw [List.getElem?_take_of_lt hj, Array.getElem?_toList]
    simp [Go.Sort.putCells, hj, show j < cur.size by omega]
  · rw [List.getElem?_take_eq_none (by omega), List.getElem?_eq_none (by simp; omega)]

theorem isNaN_a (x : Int) (w : World) : Calls Tryz.prog 83 #[.int .i64 x] w fun e w' => e = .returned (.bool false) ∧ w = w' := by
  go_enter Tryz.func83, Tryz.ntmps83
  go_wp2
  go_ret
  exact ⟨by simp, rfl⟩
theorem Compare_a (x y : Int) (w : World) : Calls Tryz.prog 53 #[.int .i64 x, .int .i64 y] w fun e w' => e = .returned (.int .i64 (Lib.compareInt x y)) ∧ w = w' := by
  have hn := fun z W => isNaN_a z W
  obtain ⟨R, hR⟩ : ∃ R, Lib.compareInt x y = R := ⟨_, rfl⟩
  rw [hR]
  have HR := Lib.hid hR
  clear hR
  by_cases h1 : x < y
  · have d1 : decide (x < y) = true := decide_eq_true h1
    have HN := Lib.hid (show R = -1 by rw [← HR.out]; unfold Lib.compareInt; rw [if_pos h1])
    go_enter Tryz.func53, Tryz.ntmps53
    go_wp2_with (go_at_call 83; refine (hn _ _).mono ?_; rintro e w' ⟨rfl, rfl⟩)
    go_ret
    exact ⟨by rw [HN.out]; rfl, rfl⟩
  · have d1 : decide (x < y) = false := decide_eq_false h1
    by_cases h2 : y < x
    · have d2 : decide (y < x) = true := decide_eq_true h2
      have HN := Lib.hid (show R = 1 by rw [← HR.out]; unfold Lib.compareInt; rw [if_neg h1, if_pos h2])
      go_enter Tryz.func53, Tryz.ntmps53
      go_wp2_with (go_at_call 83; refine (hn _ _).mono ?_; rintro e w' ⟨rfl, rfl⟩)
      go_ret
      exact ⟨by rw [HN.out]; rfl, rfl⟩
    · have d2 : decide (y < x) = false := decide_eq_false h2
      have HN := Lib.hid (show R = 0 by rw [← HR.out]; unfold Lib.compareInt; rw [if_neg h1, if_neg h2])
      go_enter Tryz.func53, Tryz.ntmps53
      go_wp2_with (go_at_call 83; refine (hn _ _).mono ?_; rintro e w' ⟨rfl, rfl⟩)
      go_ret
      exact ⟨by rw [HN.out]; rfl, rfl⟩
def cfM (x y : MK) : Int := Lib.compareInt (x.2.1 : Int) (y.2.1 : Int)
theorem ltM (x y : MK) : ltOf cfM x y = decide (x.2.1 < y.2.1) := by
  unfold ltOf cfM Lib.compareInt
  by_cases h1 : x.2.1 < y.2.1
  · have h1' : (x.2.1 : Int) < (y.2.1 : Int) := by omega
    simp [h1]
  · by_cases h2 : y.2.1 < x.2.1 <;> simp [h1, h2]
theorem swoM : Go.Sort.SWO (ltOf cfM) := {
  irrefl := fun x => by rw [ltM]; simp
  trans := fun x y z h1 h2 => by rw [ltM] at *; simp at *; omega
  ntrans := fun x y z h1 h2 => by rw [ltM] at *; simp at *; omega }
set_option maxHeartbeats 1000000 in
theorem closureM (x y : MK) (W : World) : Calls Tryz.prog 52 #[.agg (fM x).toArray, .agg (fM y).toArray] W fun e w' => e = .returned (.int .i64 (cfM x y)) ∧ ∃ q os', w' = Go.Sort.grow (W.drewN q) os' := by
  have hcon := fun W' => Compare_a (x.2.1 : Int) (y.2.1 : Int) W'
  unfold cfM
  generalize Lib.compareInt (x.2.1 : Int) (y.2.1 : Int) = r at hcon ⊢
  unfold fM
  go_enter Tryz.func52, Tryz.ntmps52
  go_wp2_with (go_at_call 53; refine (hcon _).mono ?_; rintro e w' ⟨rfl, rfl⟩)
  go_ret
  exact ⟨rfl, 0, _, by rw [Go.Sort.alloc_eq_grow, Go.Sort.alloc_eq_grow, Go.Sort.grow_grow]; rfl⟩
theorem cmpLaysM (blk off size : Nat) (w : World) : CmpLays Tryz.prog 52 #[] fM 3 cfM blk off size w :=
  fun _ _ _ _ x y => closureM x y _

set_option maxHeartbeats 1000000 in
theorem sortM_any (v : Value) (l : List MK) (base : Nat) (w : World) (hown : w.ownsRow base 49 3 v l.length (flat fM l)) (hl : l.length ≤ 1000000) :
    Calls Tryz.prog 51 #[v, .func (.func 52) #[] #[]] w fun e w' => e = .returned (.tuple #[]) ∧ ∃ l' : List MK, l'.Perm l ∧ l'.Pairwise (fun x y => ¬ y.2.1 < x.2.1) ∧ w'.ownsRow base 49 3 v l.length (flat fM l') ∧ w.grownBy w' v.ownBlock := by
  rcases hown.2 with ⟨rfl, h0⟩ | ⟨g, cap, cur, rfl, hbase, hb, hn, hcap, hcs, htk⟩
  · have hnil : l = [] := List.eq_nil_of_length_eq_zero h0
    subst hnil
    refine (AnyF.slices_SortFunc_none Tryz.sortMark none 0 (.func (.func 52) #[] #[]) w).mono ?_
    rintro e w' ⟨rfl, rfl⟩
    exact ⟨rfl, [], List.Perm.refl _, List.Pairwise.nil, hown, World.grownBy.refl _ _⟩
  · have hg : g < w.heap.size := (Array.getElem?_eq_some_iff.1 hb).1
    have eg : ∀ args w, (callFunc 52 args).run Tryz.prog w = .ok (.enter 52 args) w := enters_of Tryz.func52 (by kernel_rfl) rfl
    have hsz : (Go.Sort.flatK fM 3 l.toArray).size = l.length * 3 := by rw [Go.Sort.size_flatK]; rfl
    have hH : Go.Sort.HoldsK fM 3 w g 0 l.toArray := holds_V hb (by rw [hsz, flatK_flat]; exact htk)
    have hcon := AnyQ.slices_SortFunc Tryz.sortMark 3 Tryz.isAgg49 Tryz.sizeOf49 fM fM_len (fun x v hv => oneM x v hv) cfM swoM 52 #[] g 0 cap l.toArray w eg (cmpLaysM g 0 l.toArray.size w) hH hg (by show l.length < _; omega)
    refine hcon.mono ?_
    rintro e w' ⟨rfl, d', n, os, hp, hs, rfl⟩
    obtain ⟨hd1, _, hd2⟩ := hp
    have hds : d'.size = l.length := hd1
    have e1 : (d'.extract 0 l.toArray.size).toList = d'.toList := by
      rw [Array.toList_extract, List.extract_eq_take_drop, List.drop_zero]
      exact List.take_of_length_le (by rw [Array.length_toList, hds]; exact Nat.le_refl _)
    have e2 : (l.toArray.extract 0 l.toArray.size).toList = l := by simp
    rw [e1, e2] at hd2
    have hfe : (Go.Sort.flatK fM 3 d').toList = flat fM d'.toList := by
      have := flatK_flat d'.toList
      rwa [Array.toArray_toList] at this
    have hfs : (Go.Sort.flatK fM 3 d').size = l.length * 3 := by rw [Go.Sort.size_flatK, hds]
    refine ⟨rfl, d'.toList, hd2, ?_, ?_, grownBy_V _⟩
    · rw [List.pairwise_iff_getElem]
      intro i j hi hj hij
      rw [Array.length_toList] at hi hj
      have h := hs i j (Nat.zero_le _) hij (by show j < l.length; omega)
      rw [ltM, getElem!_pos d' i hi, getElem!_pos d' j hj, decide_eq_false_iff_not] at h
      rw [Array.getElem_toList, Array.getElem_toList]
      exact h
    · refine ⟨by rw [flat_length fM 3 fM_len, Array.length_toList, hds], .inr ⟨g, cap, _, rfl, hbase, heap_V _ hb, hn, hcap, by simp [Go.Sort.putCells, hcs], ?_⟩⟩
      rw [← hfs, ← hfe]
      exact take_V cur _ (by rw [hfs, hcs]; exact Nat.mul_le_mul_right _ hn)
end Go.Proofs.YtlfmpgfobkmgfaaGreatDoor
namespace Go.Proofs.YtlfmpgfobkmgfaaGreatDoor
open Go.RowKit Go.Deep
set_option linter.unusedVariables false
set_option linter.unusedSimpArgs false

theorem syncI_ge {c : List UInt8} {a d : Nat} (h : (a, d) ∈ syncI c) : 10 ≤ c.length := by
  unfold syncI at h
  split at h
  · split at h
    · assumption
    · cases h
  · unfold syncL at h
    obtain ⟨x, _, e⟩ := List.mem_filterMap.1 h
    unfold syncAt at e
    split at e
    · rename_i g
      have := ones_le c c.length x
      omega
    · cases e
/-- A round: the row of marks and the box of the sync. -/
structure GX (w W : World) (bf : Nat) (y : Nat × Nat) (v : Value) (l : List MK) : Prop where
  O : OO W w.heap.size 49 3 v l.length (flat fM l)
  F : BX W bf 70 (fR y)
  B : BB w W
  hf : v.ownBlock ≠ some bf
section
variable {w W W' : World} {bf : Nat} {y : Nat × Nat} {v v' : Value} {l : List MK} {x : MK}
theorem GX.dr (H : GX w W bf y v l) : GX w W.drew bf y v l := ⟨OO.dr H.O, H.F, BB.dr H.B, H.hf⟩
theorem GX.next (H : GX w W bf y v l) (hx : Below W.heap.size W W') : GX w W' bf y v l := ⟨own_later H.O hx (Nat.le_refl _), H.F.below hx H.F.lt, BB.next H.B hx, H.hf⟩
theorem GX.app {cs : Array Value} {te : TypeId} (H : GX w W bf y v l) (hown : W'.ownsRow w.heap.size 49 3 v' (l ++ [x]).length (flat fM (l ++ [x]))) (hg : (W.alloc (.cells cs te)).grownBy W' v.ownBlock) (hat : v'.ownBlock = v.ownBlock ∨ v'.ownBlock = some (W.heap.size + 1)) (hbl : Below w.heap.size W W') : GX w W' bf y v' (l ++ [x]) :=
  ⟨hown, (H.F.al (.cells cs te)).grown hg H.hf, Below.trans H.B hbl, by
    have := H.F.lt
    rcases hat with h | h
    · rw [h]; exact H.hf
    · rw [h]; intro e; have := Option.some.inj e; omega⟩
end

set_option maxRecDepth 100000 in
set_option maxHeartbeats 8000000 in
theorem gcrMarks_a (s : ByteArray) (w : World) (hs : s.size ≤ 8000) (h0 : 0 < s.size) (hbits : bitsB (bl s)) (hG : GG w) :
    Calls Tryz.prog 48 #[.string s] w fun e w' => ∃ v, e = .returned v ∧ w'.ownsRow w.heap.size 49 3 v (marksS 3 (bl s)).length (flat fM (marksS 3 (bl s))) ∧ Below w.heap.size w w' := by
  have hn := blen s
  have hby : 24 ≤ 1000 := by decide
  have sy := fun W => syncRuns_a s W hs hbits
  have sl := fun (a : Nat) W ha h10 => slice_a s a 10 W hs ha h10
  obtain ⟨R, hR⟩ : ∃ R, marksS 3 (bl s) = R := ⟨_, rfl⟩
  rw [hR]
  have HR := Lib.hid ((gmK_e h0).trans hR)
  clear hR
  obtain ⟨L, hL⟩ : ∃ L, syncI (bl s) = L := ⟨_, rfl⟩
  rw [hL] at sy HR
  have HLP := Lib.hid hL
  have hLn : L.length ≤ 8000 := by rw [← hL]; have h := syncI_len (bl s); omega
  clear hL hbits
  go_enter Tryz.func48, Tryz.ntmps48
  go_wp2_with (go_at_call 74; (with_reducible refine (sy _).mono ?_); rintro e w2 ⟨v2, rfl, OS, hx2⟩; obtain ⟨PA, pq, rfl⟩ := own_form OS)
  have hrL := Rd.of_own OS
  have hG2 := hG.bb hx2
  have O0 : World.ownsRow w2 w2.heap.size 49 3 (.slice none 0 0) 0 (flat fM []) := World.ownsRow_nil _ _ _ _
  have hB0 : BB w2 w2 := BB.start w2
  clear sy OS hG
  go_loopw [4, 6, 7, 8, 9, 15] (fun v _ _ _ _ i wr => ∃ (j : Nat) (l : List MK) (B : Option Addr) (q : Nat), i = .int .i64 (j : Int) ∧ j ≤ L.length ∧ v = .slice B l.length q ∧ OO wr w2.heap.size 49 3 (.slice B l.length q) l.length (flat fM l) ∧ BB w2 wr ∧ Hid (l = gmK (bl s) L j)) (fun _ _ _ _ _ i _ => L.length - (intOf i).toNat)
  case atStart => exact ⟨0, [], _, _, rfl, Nat.zero_le _, rfl, O0, hB0, Lib.hid rfl⟩
  case round =>
    obtain ⟨j, l, B, q, rfl, hj, rfl, O, hB, HL⟩ := hrel
    clear O0 hB0
    by_cases hlt : j < L.length
    · have hlti : decide ((j : Int) < (L.length : Int)) = true := decide_eq_true (by omega)
      obtain ⟨pb, off, he, hpb, hc⟩ := (hrL.below hB).at_ fR_len rfl j hlt
      cases he
      have hca := hc 0 _ (by omega) rfl
      have hcd := hc 1 _ (by omega) rfl
      clear hc
      obtain ⟨⟨a, d⟩, ha⟩ : ∃ x, L[j] = x := ⟨_, rfl⟩
      have hmem : (a, d) ∈ syncI (bl s) := by rw [HLP.out, ← ha]; exact List.getElem_mem hlt
      obtain ⟨han, hdn⟩ := syncI_mem hmem
      have h10 := syncI_ge hmem
      rw [hn] at han hdn h10
      rw [ha] at hca hcd
      dsimp only at hca hcd
      simp only [← Nat.add_assoc, Nat.add_zero] at hca hcd
      have HGS := Lib.hid (show gmK (bl s) L (j + 1) = l ++ sK (bl s) a (a + d) 3 by rw [gmK_s hlt, ha, HL.out])
      have hlL : l.length ≤ 8000 := by rw [HL.out]; have := gmK_len (bl s) L j; omega
      have hwS : IntKind.i64.wrap (s.size : Int) = (s.size : Int) := IntWalk.i64_in _ (by omega)
      have hw0 : IntKind.i64.wrap ((a : Int) + (d : Int)) = ((a + d : Nat) : Int) := IntWalk.i64_in _ (by omega)
      obtain ⟨r0, hr0⟩ : ∃ r, (a + d) % s.size = r := ⟨_, rfl⟩
      have hr0l : r0 < s.size := by rw [← hr0]; exact Nat.mod_lt _ h0
      have hrm : ((a : Int) + (d : Int)).tmod (s.size : Int) = (r0 : Int) := by
        rw [show (a : Int) + (d : Int) = ((a + d : Nat) : Int) by omega, rem_nat, hr0]
      have hrm2 : ((a : Int) + (d : Int)) % (s.size : Int) = (r0 : Int) := by
        rw [show (a : Int) + (d : Int) = ((a + d : Nat) : Int) by omega, ← Int.natCast_emod, hr0]
      have hnz2 : ((s.size : Int) == 0) = false := by rw [beq_eq_false_iff_ne]; omega
      have hne : ¬ s = ByteArray.empty := fun e => by rw [e] at h0; exact absurd h0 (by decide)
      have sl0 := fun W => sl r0 W (by omega) h10
      have HCM := Lib.hid (show cir (bl s) r0 10 = cir (bl s) (a + d) 10 by rw [← hr0, ← hn]; exact cir_mod (bl s) (a + d) 10)
      rw [show ((10 : Nat) : Int) = 10 from rfl, HCM.out] at sl0
      obtain ⟨y, hy⟩ : ∃ y, str1 (cir (bl s) (a + d) 10) = y := ⟨_, rfl⟩
      have HYB := Lib.hid (show bl y = cir (bl s) (a + d) 10 by rw [← hy]; rfl)
      rw [hy] at sl0
      have HR0 := Lib.hid (show (a + d + 10) % s.size = (r0 + 10) % s.size by rw [← hr0, Nat.mod_add_mod])
      clear ha hmem hr0 hy HL
      go_upto_region 8 with (go_at_call 56; (with_reducible refine (sl0 _).mono ?_); rintro e w3 ⟨rfl, hx3⟩)
      have H0 : GX w2 (wr.alloc (.cells #[.int .i64 (a : Int), .int .i64 (d : Int)] 70)) wr.heap.size (a, d) (.slice B l.length q) l := ⟨OO.al O _, BX.made wr 70 (fR (a, d)), BB.al hB _, fun e => by have := (World.ownsRow.lt O _ e).2; omega⟩
      have H1 := H0.next hx3
      clear H0 hca hcd hx3 sl0 hrm hrm2 hw0 O hB
      obtain ⟨bx, hbx⟩ : ∃ x, wr.heap.size = x := ⟨_, rfl⟩
      rw [hbx] at H1 ⊢
      clear hbx
      go_wp2_with fail
      have hl0 := hlL
      go_loopw [4, 9] (fun v kk wx => ∃ (k : Nat) (m : List MK) (B : Option Addr) (q : Nat), kk = .int .i64 (k : Int) ∧ 1 ≤ k ∧ k ≤ 4 ∧ v = .slice B m.length q ∧ GX w2 wx bx (a, d) (.slice B m.length q) m ∧ Hid (m = l ++ sK (bl s) a (a + d) (k - 1))) (fun _ kk _ => 4 - (intOf kk).toNat)
      case atStart => exact ⟨1, l, B, q, rfl, by omega, by omega, rfl, H1, Lib.hid (by show l = l ++ []; rw [List.append_nil])⟩
      case round =>
        obtain ⟨k, m, B, q, rfl, hk1, hk4, rfl, H, HM⟩ := hrel
        clear H1
        by_cases hlt3 : k ≤ 3
        · have hlti3 : decide ((k : Int) ≤ 3) = true := decide_eq_true (by omega)
          have hk3 : k = 1 ∨ k = 2 ∨ k = 3 := by omega
          have mk := fun W hW => markCells_a 3 k W (by omega) hk3 hW
          have hml : markL 3 k = onesL ++ patL 3 k := by unfold markL; rw [if_pos rfl]
          rw [hml] at mk
          clear hml
          have hPl : (patL 3 k).length = 10 := pat_len 3 k (by omega) hk3
          obtain ⟨x, hx⟩ : ∃ x, str1 (onesL ++ patL 3 k) = x := ⟨_, rfl⟩
          have hxs : x.size = 20 := by rw [← hx, str1_size, List.length_append, hPl]; rfl
          obtain ⟨p, hp⟩ : ∃ p, x.extract 10 20 = p := ⟨_, rfl⟩
          have hpb : bl p = patL 3 k := by
            rw [← hp, ← hx]
            unfold bl str1
            rw [ByteArray.data_extract, Array.toList_extract]
            simp [onesL, hPl]
            exact List.take_of_length_le (by omega)
          have hfit := fit_cir (bl s) (patL 3 k) (a + d)
          rw [hPl] at hfit
          have heq : (p.toList == y.toList) = fitB (bl s) (patL 3 k) (a + d) := by
            rw [str_eq, hpb, HYB.out, hfit, decide_eq_decide]
            exact eq_comm
          rw [hx] at mk
          have HS := Lib.hid (show l ++ sK (bl s) a (a + d) (k + 1 - 1) = m ++ (if fitB (bl s) (patL 3 k) (a + d) = true then [(k, a, (a + d + 10) % (bl s).length)] else []) by
            obtain ⟨k', rfl⟩ : ∃ k', k = k' + 1 := ⟨k - 1, by omega⟩
            rw [HM.out, Nat.add_sub_cancel, sK_s, Nat.add_sub_cancel, List.append_assoc])
          obtain ⟨T, hT⟩ : ∃ T, fitB (bl s) (patL 3 k) (a + d) = T := ⟨_, rfl⟩
          rw [hT] at heq HS
          clear hpb hPl hx hfit hT
          have hGx := hG2.bb H.B
          have hml : m.length ≤ 8004 := by rw [HM.out, List.length_append]; have : (sK (bl s) a (a + d) (k - 1)).length ≤ k - 1 := (by unfold sK; exact Nat.le_trans (List.length_filterMap_le _ _) (by rw [List.length_range]; exact Nat.le_refl _)); omega
          cases T
          · have HN := Lib.hid (show m = l ++ sK (bl s) a (a + d) (k + 1 - 1) by rw [HS.out]; simp)
            go_wp2_with (go_at_call 49; (with_reducible refine (mk _ hGx).mono ?_); rintro e w5 ⟨rfl, hx5⟩; have H5 := H.next hx5)
            go_roundw
            case rel => exact ⟨k + 1, m, B, q, by go_num, by omega, by omega, rfl, H5, HN⟩
            case measure => simp [intOf]; omega
          · obtain ⟨r, hr⟩ : ∃ r, (r0 + 10) % s.size = r := ⟨_, rfl⟩
            have HN := Lib.hid (show m ++ [(k, a, r)] = l ++ sK (bl s) a (a + d) (k + 1 - 1) by rw [HS.out, if_pos rfl, hn, HR0.out, hr])
            have hw1 : IntKind.i64.wrap ((r0 : Int) + 10) = (r0 : Int) + 10 := IntWalk.i64_in _ (by omega)
            have hrm : ((r0 : Int) + 10).tmod (s.size : Int) = (r : Int) := by
              rw [show (r0 : Int) + 10 = ((r0 + 10 : Nat) : Int) by omega, rem_nat, hr]
            have hrm2 : ((r0 : Int) + 10) % (s.size : Int) = (r : Int) := by
              rw [show (r0 : Int) + 10 = ((r0 + 10 : Nat) : Int) by omega, ← Int.natCast_emod, hr]
            go_upto_region 12 with (go_at_call 49; (with_reducible refine (mk _ hGx).mono ?_); rintro e w5 ⟨rfl, hx5⟩; have H5 := H.next hx5)
            clear H hGx hx5 mk hp hxs heq HS HM HR0 hr
            have hl1 : (m ++ [(k, a, r)]).length = m.length + 1 := by rw [List.length_append]; rfl
            generalize w5 = wx at H5 ⊢
            have H := H5
            clear H5
            have f0 : wx.drew.cell? ⟨bx, 0, none⟩ = some (.int .i64 (a : Int)) := H.F.cell 0 (by simp [fR])
            have hlb : m.length ≤ 100000000 := by omega
            have hbsD : w2.heap.size ≤ wx.drew.heap.size := (show w2.heap.size ≤ wx.heap.size from Below.size H.B)
            refine wp_region_held_drew (S := (fun W => W.cell? ⟨bx, 0, none⟩ = some (.int .i64 (a : Int)))) (by kernel_rfl) ?hS1 (fun hHeld => ?rest2)
            case hS1 => (exact f0)
            refine wpAnyH_take (i := 0) (oi := _) (v := ?v3) rfl (by kernel_rfl) (by kernel_rfl) (by kernel_rfl) (fun _ _ _ h => h) (Or.inl ⟨by rfl, ?hy4⟩) hHeld ?rest5
            case hy4 => (intro w hSw; (try dsimp only at hSw); go_simp; (try with_reducible rfl))
            try simp only [Act.put, List.setIfInBounds_toArray, List.set_cons_zero, List.set_cons_succ]
            refine wpAnyH_take (i := 1) (oi := _) (v := ?v6) rfl (by kernel_rfl) (by kernel_rfl) (by kernel_rfl) (fun _ _ _ h => h) (Or.inl ⟨by rfl, ?hy7⟩) hHeld ?rest8
            case hy7 => (intro w hSw; (try dsimp only at hSw); go_simp; (try with_reducible rfl))
            try simp only [Act.put, List.setIfInBounds_toArray, List.set_cons_zero, List.set_cons_succ]
            refine wpAnyH_take (i := 2) (oi := _) (v := ?v9) rfl (by kernel_rfl) (by kernel_rfl) (by kernel_rfl) (fun _ _ _ h => h) (Or.inl ⟨by rfl, ?hy10⟩) hHeld ?rest11
            case hy10 => (intro w hSw; (try dsimp only at hSw); go_simp; (try with_reducible rfl))
            try simp only [Act.put, List.setIfInBounds_toArray, List.set_cons_zero, List.set_cons_succ]
            refine wpAnyH_take (i := 3) (oi := _) (v := ?v12) rfl (by kernel_rfl) (by kernel_rfl) (by kernel_rfl) (fun _ _ _ h => h) (Or.inl ⟨by rfl, ?hy13⟩) hHeld ?rest14
            case hy13 => (intro w hSw; (try dsimp only at hSw); go_simp; (try with_reducible rfl))
            try simp only [Act.put, List.setIfInBounds_toArray, List.set_cons_zero, List.set_cons_succ]
            refine wpAnyH_take (i := 4) (oi := _) (v := ?v15) rfl (by kernel_rfl) (by kernel_rfl) (by kernel_rfl) (fun _ _ _ h => h) (Or.inl ⟨by rfl, ?hy16⟩) hHeld ?rest17
            case hy16 => (intro w hSw; (try dsimp only at hSw); go_simp; (try with_reducible rfl))
            try simp only [Act.put, List.setIfInBounds_toArray, List.set_cons_zero, List.set_cons_succ]
            refine wpAnyH_take (i := 5) (oi := _) (v := ?v18) rfl (by kernel_rfl) (by kernel_rfl) (by kernel_rfl) (fun _ _ _ h => h) (Or.inl ⟨by rfl, ?hy19⟩) hHeld ?rest20
            case hy19 => (intro w hSw; (try dsimp only at hSw); go_simp; (try with_reducible rfl))
            try simp only [Act.put, List.setIfInBounds_toArray, List.set_cons_zero, List.set_cons_succ]
            refine wpAnyH_take (i := 6) (oi := _) (v := ?v21) rfl (by kernel_rfl) (by kernel_rfl) (by kernel_rfl) (fun _ _ _ h => h) (Or.inl ⟨by rfl, ?hy22⟩) hHeld ?rest23
            case hy22 => (intro w hSw; (try dsimp only at hSw); go_simp; (try with_reducible rfl))
            try simp only [Act.put, List.setIfInBounds_toArray, List.set_cons_zero, List.set_cons_succ]
            refine wpAnyH_take (i := 7) (oi := _) (v := ?v24) rfl (by kernel_rfl) (by kernel_rfl) (by kernel_rfl) (fun _ _ _ h => h) (Or.inl ⟨by rfl, ?hy25⟩) hHeld ?rest26
            case hy25 => (intro w hSw; (try dsimp only at hSw); go_simp; (try with_reducible rfl))
            try simp only [Act.put, List.setIfInBounds_toArray, List.set_cons_zero, List.set_cons_succ]
            refine wpAnyH_take (i := 8) (oi := _) (v := ?v27) rfl (by kernel_rfl) (by kernel_rfl) (by kernel_rfl) (fun _ _ _ h => h) (Or.inl ⟨by rfl, ?hy28⟩) hHeld ?rest29
            case hy28 => (intro w hSw; (try dsimp only at hSw); go_simp; (try with_reducible rfl))
            try simp only [Act.put, List.setIfInBounds_toArray, List.set_cons_zero, List.set_cons_succ]
            refine wpAnyH_ready (rs := [9]) (by kernel_rfl) (by simp) ?_
            refine AllReadyH.cons (o := _) rfl (fun K hK => ?stp38) ?more39
            case stp38 =>
              go_simp
              refine hK.out _ _ ?hS40 (fun hHeld2 => ?rest41)
              case hS40 => (exact (H.dr.F.al _).cell 0 (by simp [fR]))
              clear hK K hHeld
              have hHeld := hHeld2
              clear hHeld2
              try simp only [Act.put, List.setIfInBounds_toArray, List.set_cons_zero, List.set_cons_succ]
              refine wpAnyH_ready (rs := [10]) (by kernel_rfl) (by simp) ?_
              refine AllReadyH.cons (o := _) rfl (fun K hK => ?stp34) ?more35
              case stp34 =>
                refine step_appG (w := wx.drew) (f := fM) rfl (.tmp 38) (.tmp 47) 40 rfl eltM hby (.slice B m.length q) m m.length rfl rfl (OOf H.dr.O) #[.int .i64 (k : Int), .int .i64 (a : Int), .int .i64 (r : Int)] 49 (k, a, r) 1 rfl rfl rfl (oneM _) hlb hbsD ?_
                intro v7 w7 R7 hg7 hat7 hbl7
                have H7 := H.dr.app R7 hg7 hat7 hbl7
                obtain ⟨A7, c7, rfl⟩ := own_form R7
                refine hK.out _ _ ?hS36 (fun hHeld2 => ?rest37)
                case hS36 => (exact H7.F.cell 0 (by simp [fR]))
                clear hK K hHeld
                have hHeld := hHeld2
                clear hHeld2
                try simp only [Act.put, List.setIfInBounds_toArray, List.set_cons_zero, List.set_cons_succ]
                refine wpAnyH_ready (rs := [11]) (by kernel_rfl) (by simp) ?_
                refine AllReadyH.cons (o := _) rfl (fun K hK => ?stp30) ?more31
                case stp30 =>
                  go_simp
                  refine hK.out _ _ ?hS32 (fun hHeld2 => ?rest33)
                  case hS32 => (exact hHeld)
                  clear hK K hHeld
                  have hHeld := hHeld2
                  clear hHeld2
                  try simp only [Act.put, List.setIfInBounds_toArray, List.set_cons_zero, List.set_cons_succ]
                  refine wpAnyH_done (by kernel_rfl) ?_ _
                  go_wp2_with fail
                  go_roundw
                  case rel => exact ⟨k + 1, m ++ [(k, a, r)], A7, c7, by go_num, by omega, by omega, by rw [hl1], H7, HN⟩
                  case measure => simp [intOf]; omega
                exact AllReadyH.nil
              exact AllReadyH.nil
            exact AllReadyH.nil
        · have hlti3 : decide ((k : Int) ≤ 3) = false := decide_eq_false (by omega)
          obtain rfl : k = 4 := by omega
          have HN := Lib.hid (show m = gmK (bl s) L (j + 1) by rw [HM.out, HGS.out])
          go_wp2_with fail
          go_roundw
          case rel => exact ⟨j + 1, m, B, q, by go_num, hlt, rfl, H.O, H.B, HN⟩
          case measure => (simp [intOf] <;> omega)
    · have hlti : decide ((j : Int) < (L.length : Int)) = false := decide_eq_false (by omega)
      obtain rfl : j = L.length := by omega
      go_wp2
      go_ret
      exact ⟨_, rfl, by rw [← HR.out, ← HL.out]; exact own_base (OOf O) hx2.size, hx2.trans (Below.mono hB hx2.size)⟩
end Go.Proofs.YtlfmpgfobkmgfaaGreatDoor
namespace Go.Proofs.YtlfmpgfobkmgfaaGreatDoor
open Go.RowKit Go.Deep
set_option linter.unusedVariables false
set_option linter.unusedSimpArgs false

/-- The marks of kinds 1 to K, kind by kind. -/
def fmI (f : Int) (c : List UInt8) : Nat → List MK
  | 0 => []
  | K + 1 => fmI f c K ++ (plI c (patL f (K + 1)) c.length).map fun a => (K + 1, a, (a + plen f) % c.length)
theorem plI_len (c p : List UInt8) (n : Nat) : (plI c p n).length ≤ n := by
  unfold plI
  split
  · exact Nat.zero_le _
  · exact plK_len c p n
theorem plI_lt {c p : List UInt8} {n : Nat} {x : Nat} (h : x ∈ plI c p n) : x < n := by
  unfold plI at h
  split at h
  · cases h
  · unfold plK at h
    exact List.mem_range.1 (List.mem_filter.1 h).1
theorem fmI_len (f : Int) (c : List UInt8) : ∀ k, (fmI f c k).length ≤ k * c.length
  | 0 => Nat.zero_le _
  | k + 1 => by
    have h1 := fmI_len f c k
    have h2 := plI_len c (patL f (k + 1)) c.length
    unfold fmI
    rw [List.length_append, List.length_map, Nat.add_mul, Nat.one_mul]
    omega
theorem fm_sorted {f : Int} {c : List UInt8} (hf : f = 1 ∨ f = 2) {l : List MK} (hp : l.Perm (fmI f c 3)) (hs : l.Pairwise (fun x y => ¬ y.2.1 < x.2.1)) : l = marksS f c := by
  have hl := fun k hk => pat_len f k (by omega) hk
  have h1 := hl 1 (by omega)
  have h2 := hl 2 (by omega)
  have h3 := hl 3 (by omega)
  by_cases hn : c.length < plen f
  · have e : fmI f c 3 = [] := by
      unfold fmI fmI fmI fmI plI
      rw [if_pos (by rw [h1]; exact hn), if_pos (by rw [h2]; exact hn), if_pos (by rw [h3]; exact hn)]
      rfl
    rw [e] at hp
    rw [hp.eq_nil]
    unfold marksS
    rw [if_pos hn]
  · have e : fmI f c 3 = allS (patL f) (plen f) c (fSites c.length) := by
      unfold fmI fmI fmI fmI plI
      rw [if_neg (by rw [h1]; exact hn), if_neg (by rw [h2]; exact hn), if_neg (by rw [h3]; exact hn)]
      unfold allS
      rw [allK_F, allK_F, allK_F, List.nil_append, List.append_assoc]
    rw [e] at hp
    rw [perm_mkS (pat3_f f (by omega)) (fSites_lt _) hp hs]
    unfold marksS sitesF
    rw [if_neg hn, if_neg (by omega)]
/-- A round: the row of marks and the row of places. -/
structure PX (w W : World) (v : Value) (l : List MK) (pv : Value) (L : List Nat) : Prop where
  O : OO W w.heap.size 49 3 v l.length (flat fM l)
  P : OO W w.heap.size 2 1 pv L.length (flat fN L)
  B : BB w W
  ne : pv.ownBlock = none ∨ pv.ownBlock ≠ v.ownBlock
theorem PX.app {w W W' : World} {v v' pv : Value} {l : List MK} {L : List Nat} {x : MK} {cs : Array Value} {te : TypeId} (H : PX w W v l pv L) (hown : W'.ownsRow w.heap.size 49 3 v' (l ++ [x]).length (flat fM (l ++ [x]))) (hg : (W.alloc (.cells cs te)).grownBy W' v.ownBlock) (hat : v'.ownBlock = v.ownBlock ∨ v'.ownBlock = some (W.heap.size + 1)) (hbl : Below w.heap.size W W') : PX w W' v' (l ++ [x]) pv L :=
  ⟨hown, World.ownsRow.kept (World.ownsRow.alloc H.P (.cells cs te)) hg H.ne, Below.trans H.B hbl, by
    rcases hat with h | h
    · rw [h]; exact H.ne
    · rw [h]
      right
      intro e
      have := (World.ownsRow.lt H.P _ e).2
      omega⟩

set_option maxRecDepth 100000 in
set_option maxHeartbeats 8000000 in
theorem findMarks_F (f : Int) (s : ByteArray) (w : World) (hs : s.size ≤ 8000) (h0 : 0 < s.size) (hf : f = 1 ∨ f = 2) (hG : GG w) :
    Calls Tryz.prog 36 #[.string s, .int .i64 f] w fun e w' => ∃ v, e = .returned v ∧ w'.ownsRow w.heap.size 49 3 v (marksS f (bl s)).length (flat fM (marksS f (bl s))) ∧ Below w.heap.size w w' := by
  have hf3 : ¬ f = 3 := by omega
  have e3 : (f == 3) = false := by simp [hf3]
  have hn := blen s
  have hby : 24 ≤ 1000 := by decide
  have hmk := fun (k : Nat) (W : World) (hk : k = 1 ∨ k = 2 ∨ k = 3) hW => markCells_a f k W (by omega) hk hW
  have HF := Lib.hid hf
  have O0 : World.ownsRow w w.heap.size 49 3 (.slice none 0 0) 0 (flat fM []) := World.ownsRow_nil _ _ _ _
  have hB0 : BB w w := BB.start w
  clear hf
  go_enter Tryz.func36, Tryz.ntmps36
  go_wp2
  go_loopw [5, 6] (fun v i wr => ∃ (k : Nat) (l : List MK) (B : Option Addr) (q : Nat), i = .int .i64 (k : Int) ∧ 1 ≤ k ∧ k ≤ 4 ∧ v = .slice B l.length q ∧ OO wr w.heap.size 49 3 (.slice B l.length q) l.length (flat fM l) ∧ BB w wr ∧ Hid (l = fmI f (bl s) (k - 1))) (fun _ i _ => 4 - (intOf i).toNat)
  case atStart => exact ⟨1, [], _, _, rfl, by omega, by omega, rfl, O0, hB0, Lib.hid rfl⟩
  case round =>
    obtain ⟨k, l, B, q, rfl, hk1, hk4, rfl, O, hB, HL⟩ := hrel
    clear O0 hB0
    by_cases hlt : k ≤ 3
    · have hlti : decide ((k : Int) ≤ 3) = true := decide_eq_true (by omega)
      have hk3 : k = 1 ∨ k = 2 ∨ k = 3 := by omega
      have mk := fun W hW => hmk k W hk3 hW
      have hml : markL f k = patL f k := by unfold markL; rw [if_neg hf3]
      rw [hml] at mk
      clear hml
      have hPl : (patL f k).length = plen f := pat_len f k (by have := HF.out; omega) hk3
      obtain ⟨len, hlen⟩ : ∃ len, plen f = len := ⟨_, rfl⟩
      have hlen64 : len ≤ 64 := by rw [← hlen]; unfold plen; repeat' split
                                   all_goals omega
      obtain ⟨p, hp⟩ : ∃ p, str1 (patL f k) = p := ⟨_, rfl⟩
      have hps : p.size = len := by rw [← hp, str1_size, hPl, hlen]
      have hpb : bl p = patL f k := by rw [← hp]; simp [bl, str1]
      rw [hp] at mk
      have fd := fun W => findPattern_a s p W hs (by omega)
      rw [hpb] at fd
      obtain ⟨L, hL⟩ : ∃ L, plI (bl s) (patL f k) s.size = L := ⟨_, rfl⟩
      rw [hL] at fd
      have hLn : L.length ≤ 8000 := by rw [← hL]; have := plI_len (bl s) (patL f k) s.size; omega
      have HLT := Lib.hid (show ∀ x ∈ L, x < s.size from fun x hx => by rw [← hL] at hx; exact plI_lt hx)
      have HST := Lib.hid (show fmI f (bl s) k = l ++ L.map fun a => (k, a, (a + len) % s.size) by
        obtain ⟨k', rfl⟩ : ∃ k', k = k' + 1 := ⟨k - 1, by omega⟩
        rw [Nat.add_sub_cancel] at HL
        rw [HL.out, ← hL, ← hlen, ← hn]
        rfl)
      have hll : l.length ≤ 24000 := by
        rw [HL.out]
        have := fmI_len f (bl s) (k - 1)
        have h2 := Nat.mul_le_mul (show k - 1 ≤ 3 by omega) (show (bl s).length ≤ 8000 by omega)
        omega
      have hGr := hG.bb hB
      clear hpb hPl hlen hp hL
      go_wp2_with (first
        | (go_at_call 49; (with_reducible refine (mk _ hGr).mono ?_); rintro e w5 ⟨rfl, hx5⟩; have O5 : OO w5 _ _ _ _ _ _ := own_later O hx5 (Nat.le_refl _); have hB5 : BB w w5 := BB.next hB hx5)
        | (go_at_call 50; (with_reducible refine (fd _).mono ?_); rintro e w6 ⟨v6, rfl, OL, hx6⟩; obtain ⟨PA, pq, rfl⟩ := own_form OL; have H6 : PX w w6 _ _ _ _ := ⟨own_later O5 hx6 (Nat.le_refl _), own_base OL (Below.size hB5), BB.next hB5 hx6, ne_flip (own_ne O5 OL (Nat.le_refl _))⟩))
      clear O5 hB5 OL O hB mk fd hx5 hx6 hGr
      go_loopw [5, 25] (fun v i wx => ∃ (j : Nat) (m : List MK) (B : Option Addr) (q : Nat), i = .int .i64 (j : Int) ∧ j ≤ L.length ∧ v = .slice B m.length q ∧ PX w wx (.slice B m.length q) m (.slice PA L.length pq) L ∧ Hid (m = l ++ (L.take j).map fun a => (k, a, (a + len) % s.size))) (fun _ i _ => L.length - (intOf i).toNat)
      case atStart => exact ⟨0, l, B, q, rfl, Nat.zero_le _, rfl, H6, Lib.hid (by rw [List.take_zero, List.map_nil, List.append_nil])⟩
      case round =>
        obtain ⟨j, m, B, q, rfl, hj, rfl, H, HM⟩ := hrel
        clear H6
        by_cases hlt2 : j < L.length
        · have hlti2 : decide ((j : Int) < (L.length : Int)) = true := decide_eq_true (by omega)
          obtain ⟨pb, off, he, _, hc⟩ := (Rd.of_own (OOf H.P)).at_ fN_len rfl j hlt2
          cases he
          have hca := hc 0 _ (by omega) rfl
          clear hc
          obtain ⟨a, ha⟩ : ∃ a, L[j] = a := ⟨_, rfl⟩
          have han : a < s.size := by rw [← ha]; exact HLT.out _ (List.getElem_mem hlt2)
          rw [ha] at hca
          simp only [Nat.mul_one, Nat.add_zero] at hca
          have hml : m.length ≤ 40000 := by rw [HM.out, List.length_append, List.length_map, List.length_take]; omega
          have hw1 : IntKind.i64.wrap ((a : Int) + (len : Int)) = (a : Int) + (len : Int) := IntWalk.i64_in _ (by omega)
          have hwS : IntKind.i64.wrap (s.size : Int) = (s.size : Int) := IntWalk.i64_in _ (by omega)
          have hwL : IntKind.i64.wrap (len : Int) = (len : Int) := IntWalk.i64_in _ (by omega)
          obtain ⟨r, hrr⟩ : ∃ r, (a + len) % s.size = r := ⟨_, rfl⟩
          have hrm : ((a : Int) + (len : Int)).tmod (s.size : Int) = (r : Int) := by rw [← Int.natCast_add, rem_nat, hrr]
          have hrm2 : ((a : Int) + (len : Int)) % (s.size : Int) = (r : Int) := by rw [← Int.natCast_add, ← Int.natCast_emod, hrr]
          have hne : ¬ s = ByteArray.empty := fun e => by rw [e] at h0; exact absurd h0 (by decide)
          have hnz2 : ((s.size : Int) == 0) = false := by rw [beq_eq_false_iff_ne]; omega
          have HN := Lib.hid (show m ++ [(k, a, r)] = l ++ (L.take (j + 1)).map fun a => (k, a, (a + len) % s.size) by
            rw [List.take_succ_eq_append_getElem hlt2, List.map_append, ← List.append_assoc, ← HM.out, List.map_cons, List.map_nil, ha, hrr])
          have hlb : m.length ≤ 100000000 := by omega
          have hbs := Below.size H.B
          clear ha hrr HM
          go_wp2_with (at_builtin; go_must (refine wpList_appF (f := fM) (by rfl) (.tmp 29) (.tmp 40) 40 (by rfl) eltM hby (.slice B m.length q) m (by rfl) (OOf H.O) #[.int .i64 (k : Int), .int .i64 (a : Int), .int .i64 (r : Int)] 49 (k, a, r) 1 (by rfl) (by rfl) (by rfl) (oneM _) hlb hbs ?_); intro v' w' hown' hg' hat' hbl'; have H7 := H.app hown' hg' hat' hbl')
          have hl1 : (m ++ [(k, a, r)]).length = m.length + 1 := by rw [List.length_append]; rfl
          obtain ⟨B5, c5, rfl⟩ := own_form hown'
          go_roundw
          case rel => exact ⟨j + 1, _, B5, c5, by go_num, hlt2, rfl, H7, HN⟩
          case measure => (simp [intOf] <;> omega)
        · have hlti2 : decide ((j : Int) < (L.length : Int)) = false := decide_eq_false (by omega)
          obtain rfl : j = L.length := by omega
          have HN := Lib.hid (show m = fmI f (bl s) (k + 1 - 1) by rw [HM.out, List.take_length, Nat.add_sub_cancel, HST.out])
          go_wp2_with fail
          go_roundw
          case rel => exact ⟨k + 1, m, B, q, by go_num, by omega, by omega, rfl, H.O, H.B, HN⟩
          case measure => simp [intOf]; omega
    · have hlti : decide ((k : Int) ≤ 3) = false := decide_eq_false (by omega)
      obtain rfl : k = 4 := by omega
      have hll : l.length ≤ 1000000 := by
        rw [HL.out]
        have := fmI_len f (bl s) 3
        show (fmI f (bl s) 3).length ≤ _
        omega
      have so := sortM_any (.slice B l.length q) l w.heap.size wr (OOf O) hll
      go_wp2_with (go_at_call 51; (with_reducible refine so.mono ?_); rintro e w5 ⟨rfl, l', hp, hpw, ho, hg5⟩)
      go_ret
      have hE : l' = marksS f (bl s) := fm_sorted HF.out (by rw [HL.out] at hp; exact hp) hpw
      have hln : l.length = l'.length := hp.length_eq.symm
      exact ⟨_, rfl, by rw [← hE, ← hln]; exact ho, Below.trans hB (below_of_own (OOf O) (Below.size hB) hg5)⟩
theorem findMarks_a (f : Int) (s : ByteArray) (w : World) (hs : s.size ≤ 8000) (h0 : 0 < s.size) (hbits : bitsB (bl s)) (hf : f = 1 ∨ f = 2 ∨ f = 3) (hG : GG w) :
    Calls Tryz.prog 36 #[.string s, .int .i64 f] w fun e w' => ∃ v, e = .returned v ∧ w'.ownsRow w.heap.size 49 3 v (marksS f (bl s)).length (flat fM (marksS f (bl s))) ∧ Below w.heap.size w w' := by
  rcases hf with rfl | rfl | rfl
  · exact findMarks_F 1 s w hs h0 (by omega) hG
  · exact findMarks_F 2 s w hs h0 (by omega) hG
  · have gm := fun W hW => gcrMarks_a s W hs h0 hbits hW
    go_enter Tryz.func36, Tryz.ntmps36
    go_wp2_with (go_at_call 48; (with_reducible refine (gm _ hG).mono ?_); rintro e w5 ⟨v, rfl, hO, hx⟩)
    go_ret
    exact ⟨_, rfl, hO, hx⟩
set_option maxHeartbeats 1000000 in
theorem impl_FindMarks_any (f : Int) (s : ByteArray) (w : World) (hs : s.size ≤ 1048576) (hG : GG w) :
    Calls Tryz.prog 24 #[.string s, .int .i64 f] w fun e w' => ∃ A q, e = .returned (.tuple #[.slice A (fmS f s).1.length q, .int .i64 (fmS f s).2]) ∧ OO w' w.heap.size 49 3 (.slice A (fmS f s).1.length q) (fmS f s).1.length (flat fM (fmS f s).1) ∧ Below w.heap.size w w' := by
  have hv := fun W => impl_ValidCells_a s W hs
  have hfm := fun W => isFormat_a f W
  obtain ⟨R, hR⟩ : ∃ R, fmS f s = R := ⟨_, rfl⟩
  rw [hR]
  have HR := Lib.hid hR
  clear hR
  cases hc : cellsB s
  · have HN := Lib.hid (show (([], 1) : List MK × Int) = R by rw [← HR.out]; unfold fmS; rw [hc, if_neg (by simp)])
    rw [hc] at hv
    go_enter Tryz.func24, Tryz.ntmps24
    go_wp2_with (go_at_call 30; refine (hv _).mono ?_; rintro e w9 ⟨rfl, hx9⟩)
    go_ret2
    rw [← HN.out]
    exact ⟨none, 0, rfl, World.ownsRow_nil _ _ _ _, hx9⟩
  · obtain ⟨h0, h8⟩ := cells_n hc
    have hbits := cells_bits hc
    have HC := Lib.hid hc
    rw [hc] at hv
    clear hc
    cases hf : inB f 1 3
    · have HN := Lib.hid (show (([], 1) : List MK × Int) = R by rw [← HR.out]; unfold fmS; rw [hf, if_neg (by simp)])
      rw [hf] at hfm
      go_enter Tryz.func24, Tryz.ntmps24
      go_wp2_with (first | (go_at_call 30; refine (hv _).mono ?_; rintro e w9 ⟨rfl, hx9⟩) | (go_at_call 35; refine (hfm _).mono ?_; rintro e w8 ⟨rfl, rfl⟩))
      go_ret2
      rw [← HN.out]
      exact ⟨none, 0, rfl, World.ownsRow_nil _ _ _ _, hx9⟩
    · have hm := fun W hW => findMarks_a f s W h8 h0 hbits (in13 hf) hW
      have HR2 := Lib.hid (show (if 64 < (marksS f (bl s)).length then ([], 5) else (marksS f (bl s), 0)) = R by rw [← HR.out]; exact (if_pos ⟨HC.out, hf⟩).symm)
      rw [hf] at hfm
      clear hf
      obtain ⟨L, hL⟩ : ∃ L, marksS f (bl s) = L := ⟨_, rfl⟩
      rw [hL] at hm HR2
      clear hL
      by_cases h64 : 64 < L.length
      · have HN := Lib.hid (show (([], 5) : List MK × Int) = R by rw [← HR2.out, if_pos h64])
        have d64 : decide ((64 : Int) < (L.length : Int)) = true := decide_eq_true (by omega)
        go_enter Tryz.func24, Tryz.ntmps24
        go_wp2_with (first | (go_at_call 30; refine (hv _).mono ?_; rintro e w9 ⟨rfl, hx9⟩; have hG9 := hG.bb hx9) | (go_at_call 35; refine (hfm _).mono ?_; rintro e w8 ⟨rfl, rfl⟩) | (go_at_call 36; (with_reducible refine (hm _ hG9).mono ?_); rintro e w2 ⟨v, rfl, O2, hx2⟩; obtain ⟨A, q, rfl⟩ := own_form O2))
        go_ret2
        rw [← HN.out]
        exact ⟨none, 0, rfl, World.ownsRow_nil _ _ _ _, BB.next hx9 hx2⟩
      · have HN := Lib.hid (show ((L, 0) : List MK × Int) = R by rw [← HR2.out, if_neg h64])
        have d64 : decide ((64 : Int) < (L.length : Int)) = false := decide_eq_false (by omega)
        go_enter Tryz.func24, Tryz.ntmps24
        go_wp2_with (first | (go_at_call 30; refine (hv _).mono ?_; rintro e w9 ⟨rfl, hx9⟩; have hG9 := hG.bb hx9) | (go_at_call 35; refine (hfm _).mono ?_; rintro e w8 ⟨rfl, rfl⟩) | (go_at_call 36; (with_reducible refine (hm _ hG9).mono ?_); rintro e w2 ⟨v, rfl, O2, hx2⟩; obtain ⟨A, q, rfl⟩ := own_form O2))
        go_ret2
        rw [← HN.out]
        exact ⟨_, q, rfl, own_base O2 (Below.size hx9), BB.next hx9 hx2⟩
end Go.Proofs.YtlfmpgfobkmgfaaGreatDoor
