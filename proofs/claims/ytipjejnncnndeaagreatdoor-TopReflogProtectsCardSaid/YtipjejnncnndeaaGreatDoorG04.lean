/-
  DERIVED: THE SHELF's CONTRACTS AT THIS DUMP, IN PLAIN WORDS (tools/lay-plain.mjs out of 'YtipjejnncnndeaaGreatDoorShelf0.lean', which tools/lay-shelf.mjs wrote): THE SAME DECLARATIONS UNDER THE SAME NAMES: 'import', 'namespace', 'open', 'def', 'theorem' AND NOTHING ELSE: no command of the shelf's: FOR A HAND-IN. Each laying: the table of numbers ('.._ren') and one theorem, a field a fact of the dump's own or the kernel's comparison; each contract: ONE APPLICATION.
  Views, third part: bytes to strings; opening arguments.
  Objects: walks of the comparisons.
  Objects: walks of 'Objects', 'same', 'CopyObject'.
  The library's sort at numbers; walk of 'sorted'.
-/
import Derived.Shelf.Strings.Trim
import Derived.Shelf.Small.Strs
import Derived.Shelf.Strings.Search1
import Derived.Shelf.Strings.Search2
import Derived.Shelf.Strings.Search3
import Derived.Shelf.LaysM
import Derived.Shelf.Strings.Shaped
import Derived.Shelf.Sort.Plain
import Derived.Shelf.GgClosure.StringsIndexFunc
import Derived.Ground.GgwProg
import Derived.Shelf.GgClosure.StringsIndexFuncTop
import Derived.Shelf.GgClosure.StringsRunes
import Derived.Shelf.Strings.Prefix
import Derived.Shelf.Strings.Runes
import Derived.Shelf.Strings.AsciiSet
import Derived.Shelf.Slices.In.SortNone
import Derived.Test.YtipjejnncnndeaaGreatDoorChecked
import Derived.Test.YtipjejnncnndeaaGreatDoorG01
import Derived.ProofKit
import Derived.OpenShut
import Derived.SizedLaws
import Derived.ChangeOld
import Derived.Lib.SlBytesConst
import Derived.Test.YtipjejnncnndeaaGreatDoorG02
import Derived.Test.YtipjejnncnndeaaGreatDoorG03
import Derived.Sort.Grow
import Derived.OwnWalk
namespace Go.Proofs
open Go.Shelf
def Tryz.lays160_ren : Go.Shelf.Ren := ⟨fun | 160 => 75 | 232 => 95 | 231 => 94 | 227 => 96 | 234 => 98 | 233 => 97 | 236 => 100 | 235 => 99 | 228 => 109 | 271 => 111 | 151 => 110 | 197 => 91 | 120 => 118 | 152 => 117 | 260 => 107 | 137 => 121 | 119 => 122 | 224 => 115 | 225 => 114 | 217 => 113 | 266 => 119 | n => n, fun | 9 => 9 | 4 => 4 | 3 => 3 | 5 => 5 | 117 => 149 | 116 => 148 | 0 => 0 | 124 => 152 | 21 => 21 | 105 => 144 | 46 => 95 | 119 => 162 | 139 => 165 | 138 => 164 | n => n, fun | 3 => 1 | 4 => 2 | n => n⟩
theorem Tryz.lays160 : Go.Proofs.Lays.n160 Tryz.prog Tryz.lays160_ren := {
  mixed := by kernel_rfl
  f119 := Tryz.func122.trans (congrArg some (by kernel_rfl))
  f120 := Tryz.func118.trans (congrArg some (by kernel_rfl))
  f137 := Tryz.func121.trans (congrArg some (by kernel_rfl))
  f151 := Tryz.func110.trans (congrArg some (by kernel_rfl))
  f152 := Tryz.func117.trans (congrArg some (by kernel_rfl))
  f160 := Tryz.func75.trans (congrArg some (by kernel_rfl))
  f197 := Tryz.func91.trans (congrArg some (by kernel_rfl))
  f217 := Tryz.func113.trans (congrArg some (by kernel_rfl))
  f224 := Tryz.func115.trans (congrArg some (by kernel_rfl))
  f225 := Tryz.func114.trans (congrArg some (by kernel_rfl))
  f227 := Tryz.func96.trans (congrArg some (by kernel_rfl))
  f228 := Tryz.func109.trans (congrArg some (by kernel_rfl))
  f231 := Tryz.func94.trans (congrArg some (by kernel_rfl))
  f232 := Tryz.func95.trans (congrArg some (by kernel_rfl))
  f233 := Tryz.func97.trans (congrArg some (by kernel_rfl))
  f234 := Tryz.func98.trans (congrArg some (by kernel_rfl))
  f235 := Tryz.func99.trans (congrArg some (by kernel_rfl))
  f236 := Tryz.func100.trans (congrArg some (by kernel_rfl))
  f260 := Tryz.func107.trans (congrArg some (by kernel_rfl))
  f266 := Tryz.func119.trans (congrArg some (by kernel_rfl))
  f271 := Tryz.func111.trans (congrArg some (by kernel_rfl))
  t0 := Tryz.underlying0
  a0 := Tryz.isAgg0
  z0 := Tryz.sizeOf0
  v0 := Tryz.zeroValue0
  t3 := Tryz.underlying3
  a3 := Tryz.isAgg3
  z3 := Tryz.sizeOf3
  v3 := Tryz.zeroValue3
  t4 := Tryz.underlying4
  a4 := Tryz.isAgg4
  z4 := Tryz.sizeOf4
  v4 := Tryz.zeroValue4
  t5 := Tryz.underlying5
  a5 := Tryz.isAgg5
  z5 := Tryz.sizeOf5
  v5 := Tryz.zeroValue5
  t9 := Tryz.underlying9
  a9 := Tryz.isAgg9
  z9 := Tryz.sizeOf9
  v9 := Tryz.zeroValue9
  t21 := Tryz.underlying21
  a21 := Tryz.isAgg21
  z21 := Tryz.sizeOf21
  v21 := Tryz.zeroValue21
  t46 := Tryz.underlying95
  a46 := Tryz.isAgg95
  z46 := Tryz.sizeOf95
  v46 := Tryz.zeroValue95
  t105 := Tryz.underlying144
  a105 := Tryz.isAgg144
  z105 := Tryz.sizeOf144
  v105 := Tryz.zeroValue144
  t116 := Tryz.underlying148
  a116 := Tryz.isAgg148
  z116 := Tryz.sizeOf148
  t117 := Tryz.underlying149
  a117 := Tryz.isAgg149
  z117 := Tryz.sizeOf149
  v117 := Tryz.zeroValue149
  t119 := Tryz.underlying162
  a119 := Tryz.isAgg162
  z119 := Tryz.sizeOf162
  t124 := Tryz.underlying152
  a124 := Tryz.isAgg152
  z124 := Tryz.sizeOf152
  v124 := Tryz.zeroValue152
  t138 := Tryz.underlying164
  a138 := Tryz.isAgg164
  z138 := Tryz.sizeOf164
  v138 := Tryz.zeroValue164
  t139 := Tryz.underlying165
  a139 := Tryz.isAgg165
  z139 := Tryz.sizeOf165
  v139 := Tryz.zeroValue165
  g3 := by kernel_rfl
  g4 := by kernel_rfl }
def Tryz.lays106_ren : Go.Shelf.Ren := ⟨fun | 106 => 69 | 213 => 88 | 265 => 105 | n => n, fun | 9 => 9 | 3 => 3 | n => n, fun | n => n⟩
theorem Tryz.lays106 : Go.Proofs.Lays.n106 Tryz.prog Tryz.lays106_ren := {
  mixed := by kernel_rfl
  f106 := Tryz.func69.trans (congrArg some (by kernel_rfl))
  f213 := Tryz.func88.trans (congrArg some (by kernel_rfl))
  f265 := Tryz.func105.trans (congrArg some (by kernel_rfl))
  t3 := Tryz.underlying3
  a3 := Tryz.isAgg3
  z3 := Tryz.sizeOf3
  v3 := Tryz.zeroValue3
  t9 := Tryz.underlying9
  a9 := Tryz.isAgg9
  z9 := Tryz.sizeOf9
  v9 := Tryz.zeroValue9 }
open Go.RowKit in
/-- strings.Compare: "Compare returns an integer comparing two strings lexicographically. The result will be 0 if a == b, -1 if a < b, and +1 if a > b.": IT RETURNS 'Lib.compareBytes a b'; the world is as it was. (LAID: no walk: one application.) -/
theorem Tryz.strings_Compare (a b : ByteArray) (w : World) :
    Calls Tryz.prog 69 #[.string a, .string b] w fun e w' => e = .returned (.int .i64 (Lib.compareBytes a.data.toList b.data.toList)) ∧ w' = w := Any.strings_Compare Tryz.lays106 a b w
def Tryz.lays143_ren : Go.Shelf.Ren := ⟨fun | 143 => 92 | 219 => 108 | 217 => 113 | 225 => 114 | 224 => 115 | 267 => 116 | 266 => 119 | 314 => 120 | n => n, fun | 9 => 9 | 3 => 3 | 4 => 4 | 5 => 5 | 46 => 95 | 146 => 169 | 51 => 124 | n => n, fun | 1 => 0 | n => n⟩
theorem Tryz.lays143 : Go.Proofs.Lays.n143 Tryz.prog Tryz.lays143_ren := {
  mixed := by kernel_rfl
  f143 := Tryz.func92.trans (congrArg some (by kernel_rfl))
  f217 := Tryz.func113.trans (congrArg some (by kernel_rfl))
  f219 := Tryz.func108.trans (congrArg some (by kernel_rfl))
  f224 := Tryz.func115.trans (congrArg some (by kernel_rfl))
  f225 := Tryz.func114.trans (congrArg some (by kernel_rfl))
  f266 := Tryz.func119.trans (congrArg some (by kernel_rfl))
  f267 := Tryz.func116.trans (congrArg some (by kernel_rfl))
  f314 := Tryz.func120.trans (congrArg some (by kernel_rfl))
  t3 := Tryz.underlying3
  a3 := Tryz.isAgg3
  z3 := Tryz.sizeOf3
  v3 := Tryz.zeroValue3
  t4 := Tryz.underlying4
  a4 := Tryz.isAgg4
  z4 := Tryz.sizeOf4
  v4 := Tryz.zeroValue4
  t5 := Tryz.underlying5
  a5 := Tryz.isAgg5
  z5 := Tryz.sizeOf5
  v5 := Tryz.zeroValue5
  t9 := Tryz.underlying9
  a9 := Tryz.isAgg9
  z9 := Tryz.sizeOf9
  v9 := Tryz.zeroValue9
  t46 := Tryz.underlying95
  a46 := Tryz.isAgg95
  z46 := Tryz.sizeOf95
  v46 := Tryz.zeroValue95
  t51 := Tryz.underlying124
  a51 := Tryz.isAgg124
  z51 := Tryz.sizeOf124
  v51 := Tryz.zeroValue124
  t146 := Tryz.underlying169
  a146 := Tryz.isAgg169
  z146 := Tryz.sizeOf169
  v146 := Tryz.zeroValue169
  g1 := by kernel_rfl }
open Go.RowKit Go.Lib in
/-- strings.Index: "Index returns the index of the first instance of substr in s, or -1 if substr is not present in s.": AT A substr OF ONE BYTE c: IT RETURNS 'Lib.indexByte s c'; the world is as it was. (LAID: no walk: one application.) -/
theorem Tryz.strings_Index_one (s : ByteArray) (c : UInt8) (w : World) :
    Calls Tryz.prog 92 #[.string s, .string ⟨#[c]⟩] w fun e w' => e = .returned (.int .i64 (Lib.indexByte s.data.toList c)) ∧ w' = w := Any.strings_Index_one Tryz.lays143 s c w
open Go.RowKit Go.Lib in
/-- strings.Index: "Index returns the index of the first instance of substr in s, or -1 if substr is not present in s.": IT RETURNS 'Lib.index s substr'; the world is as it was. (LAID: no walk: one application.) -/
theorem Tryz.strings_Index (s sub : ByteArray) (m : Int) (w : World) (hs : s.size < 4294967281) (hm : w.cell? ⟨0, 0, none⟩ = some (.int .i64 m)) :
    Calls Tryz.prog 92 #[.string s, .string sub] w fun e w' => e = .returned (.int .i64 (Lib.index s.data.toList sub.data.toList)) ∧ w' = w := Any.strings_Index Tryz.lays143 s sub m w hs hm
def Tryz.lays144_ren : Go.Shelf.Ren := ⟨fun | 144 => 74 | 143 => 92 | 219 => 108 | 217 => 113 | 225 => 114 | 224 => 115 | 267 => 116 | 266 => 119 | 314 => 120 | n => n, fun | 9 => 9 | 4 => 4 | 3 => 3 | 5 => 5 | 46 => 95 | 146 => 169 | 51 => 124 | n => n, fun | 1 => 0 | n => n⟩
theorem Tryz.lays144 : Go.Proofs.Lays.n144 Tryz.prog Tryz.lays144_ren := {
  mixed := by kernel_rfl
  f143 := Tryz.func92.trans (congrArg some (by kernel_rfl))
  f144 := Tryz.func74.trans (congrArg some (by kernel_rfl))
  f217 := Tryz.func113.trans (congrArg some (by kernel_rfl))
  f219 := Tryz.func108.trans (congrArg some (by kernel_rfl))
  f224 := Tryz.func115.trans (congrArg some (by kernel_rfl))
  f225 := Tryz.func114.trans (congrArg some (by kernel_rfl))
  f266 := Tryz.func119.trans (congrArg some (by kernel_rfl))
  f267 := Tryz.func116.trans (congrArg some (by kernel_rfl))
  f314 := Tryz.func120.trans (congrArg some (by kernel_rfl))
  t3 := Tryz.underlying3
  a3 := Tryz.isAgg3
  z3 := Tryz.sizeOf3
  v3 := Tryz.zeroValue3
  t4 := Tryz.underlying4
  a4 := Tryz.isAgg4
  z4 := Tryz.sizeOf4
  v4 := Tryz.zeroValue4
  t5 := Tryz.underlying5
  a5 := Tryz.isAgg5
  z5 := Tryz.sizeOf5
  v5 := Tryz.zeroValue5
  t9 := Tryz.underlying9
  a9 := Tryz.isAgg9
  z9 := Tryz.sizeOf9
  v9 := Tryz.zeroValue9
  t46 := Tryz.underlying95
  a46 := Tryz.isAgg95
  z46 := Tryz.sizeOf95
  v46 := Tryz.zeroValue95
  t51 := Tryz.underlying124
  a51 := Tryz.isAgg124
  z51 := Tryz.sizeOf124
  v51 := Tryz.zeroValue124
  t146 := Tryz.underlying169
  a146 := Tryz.isAgg169
  z146 := Tryz.sizeOf169
  v146 := Tryz.zeroValue169
  g1 := by kernel_rfl }
open Go.RowKit Go.Lib in
/-- strings.Contains: "Contains reports whether substr is within s.": IT RETURNS 'Lib.contains s substr'; the world is as it was. (LAID: no walk: one application.) -/
theorem Tryz.strings_Contains (s sub : ByteArray) (m : Int) (w : World) (hs : s.size < 4294967281) (hm : w.cell? ⟨0, 0, none⟩ = some (.int .i64 m)) :
    Calls Tryz.prog 74 #[.string s, .string sub] w fun e w' => e = .returned (.bool (Lib.contains s.data.toList sub.data.toList)) ∧ w' = w := Any.strings_Contains Tryz.lays144 s sub m w hs hm
def Tryz.lays189_ren : Go.Shelf.Ren := ⟨fun | 189 => 21 | 125 => 38 | 257 => 37 | 128 => 65 | 129 => 66 | 294 => 56 | 295 => 57 | 296 => 58 | 297 => 59 | 298 => 60 | 299 => 61 | 216 => 62 | 300 => 63 | 301 => 64 | 328 => 82 | 329 => 83 | 330 => 84 | 331 => 85 | 332 => 86 | 215 => 87 | 343 => 104 | n => n, fun | 28 => 31 | 3 => 3 | 46 => 95 | 0 => 0 | 51 => 124 | 53 => 126 | 4 => 4 | 183 => 117 | 182 => 116 | 131 => 74 | 5 => 5 | 9 => 9 | 218 => 138 | 222 => 142 | 228 => 155 | 229 => 156 | n => n, fun | n => n⟩
theorem Tryz.lays189 : Go.Proofs.Lays.n189 Tryz.prog Tryz.lays189_ren := {
  mixed := by kernel_rfl
  f125 := Tryz.func38.trans (congrArg some (by kernel_rfl))
  f128 := Tryz.func65.trans (congrArg some (by kernel_rfl))
  f129 := Tryz.func66.trans (congrArg some (by kernel_rfl))
  f189 := Tryz.func21.trans (congrArg some (by kernel_rfl))
  f215 := Tryz.func87.trans (congrArg some (by kernel_rfl))
  f216 := Tryz.func62.trans (congrArg some (by kernel_rfl))
  f257 := Tryz.func37.trans (congrArg some (by kernel_rfl))
  f294 := Tryz.func56.trans (congrArg some (by kernel_rfl))
  f295 := Tryz.func57.trans (congrArg some (by kernel_rfl))
  f296 := Tryz.func58.trans (congrArg some (by kernel_rfl))
  f297 := Tryz.func59.trans (congrArg some (by kernel_rfl))
  f298 := Tryz.func60.trans (congrArg some (by kernel_rfl))
  f299 := Tryz.func61.trans (congrArg some (by kernel_rfl))
  f300 := Tryz.func63.trans (congrArg some (by kernel_rfl))
  f301 := Tryz.func64.trans (congrArg some (by kernel_rfl))
  f328 := Tryz.func82.trans (congrArg some (by kernel_rfl))
  f329 := Tryz.func83.trans (congrArg some (by kernel_rfl))
  f330 := Tryz.func84.trans (congrArg some (by kernel_rfl))
  f331 := Tryz.func85.trans (congrArg some (by kernel_rfl))
  f332 := Tryz.func86.trans (congrArg some (by kernel_rfl))
  f343 := Tryz.func104.trans (congrArg some (by kernel_rfl))
  t0 := Tryz.underlying0
  a0 := Tryz.isAgg0
  z0 := Tryz.sizeOf0
  v0 := Tryz.zeroValue0
  t3 := Tryz.underlying3
  a3 := Tryz.isAgg3
  z3 := Tryz.sizeOf3
  v3 := Tryz.zeroValue3
  t4 := Tryz.underlying4
  a4 := Tryz.isAgg4
  z4 := Tryz.sizeOf4
  v4 := Tryz.zeroValue4
  t5 := Tryz.underlying5
  a5 := Tryz.isAgg5
  z5 := Tryz.sizeOf5
  v5 := Tryz.zeroValue5
  t9 := Tryz.underlying9
  a9 := Tryz.isAgg9
  z9 := Tryz.sizeOf9
  v9 := Tryz.zeroValue9
  t28 := Tryz.underlying31
  a28 := Tryz.isAgg31
  z28 := Tryz.sizeOf31
  v28 := Tryz.zeroValue31
  t46 := Tryz.underlying95
  a46 := Tryz.isAgg95
  z46 := Tryz.sizeOf95
  v46 := Tryz.zeroValue95
  t51 := Tryz.underlying124
  a51 := Tryz.isAgg124
  z51 := Tryz.sizeOf124
  v51 := Tryz.zeroValue124
  t53 := Tryz.underlying126
  a53 := Tryz.isAgg126
  z53 := Tryz.sizeOf126
  v53 := Tryz.zeroValue126
  t131 := Tryz.underlying74
  a131 := Tryz.isAgg74
  z131 := Tryz.sizeOf74
  v131 := Tryz.zeroValue74
  t182 := Tryz.underlying116
  a182 := Tryz.isAgg116
  z182 := Tryz.sizeOf116
  v182 := Tryz.zeroValue116
  t183 := Tryz.underlying117
  a183 := Tryz.isAgg117
  z183 := Tryz.sizeOf117
  v183 := Tryz.zeroValue117
  t218 := Tryz.underlying138
  a218 := Tryz.isAgg138
  z218 := Tryz.sizeOf138
  v218 := Tryz.zeroValue138
  t222 := Tryz.underlying142
  a222 := Tryz.isAgg142
  z222 := Tryz.sizeOf142
  v222 := Tryz.zeroValue142
  t228 := Tryz.underlying155
  a228 := Tryz.isAgg155
  z228 := Tryz.sizeOf155
  v228 := Tryz.zeroValue155
  t229 := Tryz.underlying156
  a229 := Tryz.isAgg156
  z229 := Tryz.sizeOf156
  v229 := Tryz.zeroValue156 }
open Go.Sort Go.RowKit in
theorem Tryz.slices_Sort_int (blk off cap : Nat) (zs : List Int) (w : World) (hH : Holds (Value.int .i64) w blk off zs.toArray) (hblk : blk < w.heap.size) (hsz : zs.length < 4611686018427387904) :
    Calls Tryz.prog 21 #[.slice (some ⟨blk, off, none⟩) zs.length cap] w fun e w' =>
      e = .returned (.tuple #[]) ∧ ∃ n os, w' = grow (putRow (Value.int .i64) (Sort.ahead w n) blk off (zs.mergeSort fun x y => decide (x ≤ y)).toArray) os := Any.slices_Sort_int Tryz.lays189 blk off cap zs w hH hblk hsz
def Tryz.laysGw17_ren : Go.Shelf.Ren := ⟨fun | 17 => 76 | 15 => 101 | 20 => 112 | n => n, fun | 9 => 9 | 23 => 135 | 4 => 4 | 3 => 3 | 0 => 0 | 21 => 21 | n => n, fun | n => n⟩
theorem Tryz.laysGw17 : Go.Proofs.LaysGw.n17 Tryz.prog Tryz.laysGw17_ren := {
  mixed := by kernel_rfl
  f15 := Tryz.func101.trans (congrArg some (by kernel_rfl))
  f17 := Tryz.func76.trans (congrArg some (by kernel_rfl))
  f20 := Tryz.func112.trans (congrArg some (by kernel_rfl))
  t0 := Tryz.underlying0
  a0 := Tryz.isAgg0
  z0 := Tryz.sizeOf0
  v0 := Tryz.zeroValue0
  i0 := by kernel_rfl
  t3 := Tryz.underlying3
  a3 := Tryz.isAgg3
  z3 := Tryz.sizeOf3
  v3 := Tryz.zeroValue3
  i3 := by kernel_rfl
  t4 := Tryz.underlying4
  a4 := Tryz.isAgg4
  z4 := Tryz.sizeOf4
  v4 := Tryz.zeroValue4
  i4 := by kernel_rfl
  t9 := Tryz.underlying9
  a9 := Tryz.isAgg9
  z9 := Tryz.sizeOf9
  v9 := Tryz.zeroValue9
  i9 := by kernel_rfl
  t21 := Tryz.underlying21
  a21 := Tryz.isAgg21
  z21 := Tryz.sizeOf21
  v21 := Tryz.zeroValue21
  i21 := by kernel_rfl
  t23 := Tryz.underlying135
  a23 := Tryz.isAgg135
  z23 := Tryz.sizeOf135
  v23 := Tryz.zeroValue135
  i23 := by kernel_rfl }
open Go.RowKit Go.Lib in
theorem Tryz.strings_ContainsFunc (g : Nat) (lb : Array Value) (eg : ∀ args w, (callFunc g args).run Tryz.prog w = .ok (.enter g args) w) (p : Nat → Bool) (s : ByteArray) (w : World) (hp : PredAt Tryz.prog g lb encR p w) :
    Calls Tryz.prog 76 #[.string s, .func (.func g) #[] lb] w fun e w' => e = .returned (.bool (decide (0 ≤ Lib.idxFunc p true s))) ∧ Below w.heap.size w w' := Any.strings_ContainsFunc Tryz.laysGw17 g lb eg p s w hp
open Go.RowKit Go.Lib in
theorem Tryz.strings_ContainsFunc_runes (g : Nat) (lb : Array Value) (eg : ∀ args w, (callFunc g args).run Tryz.prog w = .ok (.enter g args) w) (p : Nat → Bool) (s : ByteArray) (w : World) (hp : PredAtRunes Tryz.prog g lb p w) :
    Calls Tryz.prog 76 #[.string s, .func (.func g) #[] lb] w fun e w' => e = .returned (.bool (decide (0 ≤ Lib.idxFunc p true s))) ∧ Below w.heap.size w w' := Any.strings_ContainsFunc_runes Tryz.laysGw17 g lb eg p s w hp
def Tryz.lays99_ren : Go.Shelf.Ren := ⟨fun | 99 => 79 | 206 => 102 | n => n, fun | 9 => 9 | 4 => 4 | 3 => 3 | n => n, fun | n => n⟩
theorem Tryz.lays99 : Go.Proofs.Lays.n99 Tryz.prog Tryz.lays99_ren := {
  mixed := by kernel_rfl
  f99 := Tryz.func79.trans (congrArg some (by kernel_rfl))
  f206 := Tryz.func102.trans (congrArg some (by kernel_rfl))
  t3 := Tryz.underlying3
  a3 := Tryz.isAgg3
  z3 := Tryz.sizeOf3
  v3 := Tryz.zeroValue3
  t4 := Tryz.underlying4
  a4 := Tryz.isAgg4
  z4 := Tryz.sizeOf4
  v4 := Tryz.zeroValue4
  t9 := Tryz.underlying9
  a9 := Tryz.isAgg9
  z9 := Tryz.sizeOf9
  v9 := Tryz.zeroValue9 }
open Go.RowKit Go.Lib in
/-- strings.HasPrefix: "HasPrefix reports whether the string s begins with prefix.": IT RETURNS 'Lib.hasPrefix s prefix'; the world is as it was. (LAID: no walk: one application.) -/
theorem Tryz.strings_HasPrefix (s p : ByteArray) (w : World) :
    Calls Tryz.prog 79 #[.string s, .string p] w fun e w' => e = .returned (.bool (Lib.hasPrefix s.data.toList p.data.toList)) ∧ w' = w := Any.strings_HasPrefix Tryz.lays99 s p w
def Tryz.lays100_ren : Go.Shelf.Ren := ⟨fun | 100 => 73 | 207 => 93 | n => n, fun | 9 => 9 | 4 => 4 | 3 => 3 | n => n, fun | n => n⟩
theorem Tryz.lays100 : Go.Proofs.Lays.n100 Tryz.prog Tryz.lays100_ren := {
  mixed := by kernel_rfl
  f100 := Tryz.func73.trans (congrArg some (by kernel_rfl))
  f207 := Tryz.func93.trans (congrArg some (by kernel_rfl))
  t3 := Tryz.underlying3
  a3 := Tryz.isAgg3
  z3 := Tryz.sizeOf3
  v3 := Tryz.zeroValue3
  t4 := Tryz.underlying4
  a4 := Tryz.isAgg4
  z4 := Tryz.sizeOf4
  v4 := Tryz.zeroValue4
  t9 := Tryz.underlying9
  a9 := Tryz.isAgg9
  z9 := Tryz.sizeOf9
  v9 := Tryz.zeroValue9 }
open Go.RowKit Go.Lib in
/-- strings.HasSuffix: "HasSuffix reports whether the string s ends with suffix.": IT RETURNS 'Lib.hasSuffix s suffix'; the world is as it was. ('hs': no Go string is longer: a caller has it of every string that it was handed.) (LAID: no walk: one application.) -/
theorem Tryz.strings_HasSuffix (s p : ByteArray) (w : World) (hs : s.size ≤ 9223372036854775807) :
    Calls Tryz.prog 73 #[.string s, .string p] w fun e w' => e = .returned (.bool (Lib.hasSuffix s.data.toList p.data.toList)) ∧ w' = w := Any.strings_HasSuffix Tryz.lays100 s p w hs
open Go.RowKit Go.Sort in
/-- .. and plain. (LAID: no walk: one application.) -/
theorem Tryz.slices_Sort_int_none (p : Option Addr) (cap : Nat) (w : World) :
    Calls Tryz.prog 21 #[.slice p 0 cap] w fun e w' => e = .returned (.tuple #[]) ∧ w' = w := Any.slices_Sort_int_none Tryz.lays189 p cap w
end Go.Proofs
namespace Go.V
open Go.RowKit Go.ChangeShapes Go.WideShapes Go.ChangeAt

theorem foldl_push : ∀ (l : List UInt8) (s : ByteArray), (l.map fun b => (b.toNat : Int)).foldl (fun r n => r.push (UInt8.ofNat n.toNat)) s = ⟨s.data ++ l.toArray⟩
  | [], s => by simp
  | b :: l, s => by
    simp only [List.map_cons, List.foldl_cons]
    rw [foldl_push l]
    simp [ByteArray.push]

/-- 'string(b)'. -/
theorem run_conv_str {P : Program} {w : World} {B : Nat} {A : Option Addr} {l : List UInt8} (src dst e : TypeId) (c : Nat) (hs : P.underlying src = some (.slice e)) (he : P.underlying e = some (.int .u8)) (hd : P.underlying dst = some .string)
    (h : SV w B A (bytesV l)) : (convert src dst (.slice A l.length c)).run P w = .ok (.string ⟨l.toArray⟩) w := by
  rw [run_convert_bytes_string w src dst e A l.length c hs he hd]
  rcases A with _ | a
  · rcases h with h | ⟨b, off, h, _⟩
    · have hl : l = [] := by simpa [bytesV] using h
      subst hl
      rfl
    · cases h
  · rw [run_bytesToString (P := P) w a l.length c (l.map fun b => (b.toNat : Int)) ?_, foldl_push]
    · simp
    · have hv : (l.map fun b => (b.toNat : Int)).map (Value.int .u8) = bytesV l := by simp [bytesV]
      rw [hv]
      have := run_loadCells_list (P := P) (w := w) a (bytesV l) (fun j v hj => by
        rcases h with h | ⟨b, off, h, _, hc⟩
        · rw [h] at hj; simp at hj
        · injection h with h
          subst h
          have := hc j v hj
          unfold Addr.add
          split
          · rename_i h0; subst h0; exact this
          · exact this)
      simpa using this

/-! ### opening an argument -/
section
variable {H : Type} {enc : TypeId × Value → H} {P : Program} {W : World}
/-- A []byte that came in. -/
theorem open_bytes {t e : TypeId} {fuel base : Nat} {spare : Nat → Bool} {held : Bool} {cs : List Value} {x : DataW H × List MemPlace} (ht : P.underlying t = some (.slice e)) (he : P.underlying e = some (.int .u8)) (hce : P.cellsOf e = 1)
    (h : DataW.trod enc P W base spare held fuel t cs = some x) :
    ∃ A c l, cs = [.slice A l.length c] ∧ l.length ≤ c ∧ c ≤ maxLen ∧ SV W W.heap.size A (bytesV l) := by
  rcases open_ints ht he hce h with ⟨hcs, _⟩ | ⟨a, len, cap, zs, hcs, _, hl, hm, hz, _, hcell, hwz⟩
  · exact ⟨none, 0, [], by simpa using hcs, by simp, by simp [maxLen], .inl rfl⟩
  · have hlz : len ≤ zs.length := by
      have := hz
      split at this <;> omega
    refine ⟨some a, cap, (zs.take len).map (fun n => UInt8.ofNat n.toNat), by simp [hcs]; omega, by simp; omega, hm, ?_⟩
    have hb : ∀ i, (hi : i < zs.length) → 0 ≤ zs[i] ∧ zs[i] ≤ 255 := fun i hi => bounds_u8 (hwz _ (List.getElem_mem hi))
    by_cases h0 : len = 0
    · subst h0; exact .inl (by simp [bytesV])
    · obtain ⟨b, off, spot⟩ := a
      have hc0 := hcell 0 (by omega)
      have hspot : spot = none := by simpa [Addr.add] using World.cell?_spot hc0
      subst hspot
      have hcell' : ∀ i, i < zs.length → W.cell? ⟨b, off + i, none⟩ = some (.int .u8 (zs.getD i 0)) := fun i hi => by
        have := hcell i hi
        unfold Addr.add at this
        split at this
        · rename_i h; subst h; exact this
        · exact this
      refine .inr ⟨b, off, rfl, World.block_lt_of_cell? W _ (hcell' 0 (by omega)), fun j u hu => ?_⟩
      simp only [bytesV, List.getElem?_map, Option.map_map, Option.map_eq_some_iff, List.getElem?_take] at hu
      obtain ⟨z, hz1, rfl⟩ := hu
      split at hz1
      · rename_i hj
        obtain ⟨hjl, rfl⟩ := List.getElem?_eq_some_iff.1 hz1
        rw [hcell' j hjl]
        have := hb j hjl
        have e1 : zs.getD j 0 = zs[j] := by simp [List.getD, hz1]
        rw [e1]
        congr 2
        simp only
        rw [UInt8.toNat_ofNat']
        omega
      · cases hz1
end
end Go.V
namespace Go.Proofs.YtipjejnncnndeaaGreatDoor
open Go.RowKit Go.V
set_option linter.unusedVariables false

/-- Equality of two lists up to i. -/
theorem eq_upto {α : Type} {a b : List α} (hl : a.length = b.length) (h : ∀ j, j < a.length → a[j]? = b[j]?) : a = b :=
  List.ext_getElem? fun j => by
    by_cases hj : j < a.length
    · exact h j hj
    · rw [List.getElem?_eq_none (by omega), List.getElem?_eq_none (by omega)]
set_option maxHeartbeats 1600000 in
theorem ints44_any (w : World) (A1 A2 : Option Addr) (c1 c2 : Nat) (l1 l2 : List Int) (h1 : SV w w.heap.size A1 (intsV l1)) (h2 : SV w w.heap.size A2 (intsV l2)) (hl1 : l1.length ≤ 9223372036854775807) (hl2 : l2.length ≤ 9223372036854775807) :
    Calls Tryz.prog 8 #[.slice A1 l1.length c1, .slice A2 l2.length c2] w fun e w' => e = .returned (.bool (decide (l1 = l2))) ∧ ∃ n, w' = w.drewN n := by
  by_cases hlen : l1.length = l2.length
  · have hlen' : ((l1.length : Int) != l2.length) = false := by simp [hlen]
    have HL := Lib.hid hlen
    clear hlen
    go_enter Tryz.func8, Tryz.ntmps8
    go_wp2_with fail
    go_loopw [5] (fun k wr => ∃ i : Nat, i ≤ l1.length ∧ k = .int .i64 i ∧ Hid (∀ j, j < i → l1[j]? = l2[j]?) ∧ ∃ n, wr = w.drewN n) (fun k _ => l1.length - (intOf k).toNat)
    case atStart => exact ⟨0, Nat.zero_le _, rfl, Lib.hid (fun j hj => by omega), 0, rfl⟩
    case round =>
      obtain ⟨i, hi, rfl, H, n, rfl⟩ := hrel
      by_cases hlt : i < l1.length
      · have hlt2 : i < l2.length := by rw [← HL.out]; exact hlt
        obtain ⟨b1, o1, rfl, _, x1⟩ := h1.int i hlt
        obtain ⟨b2, o2, rfl, _, x2⟩ := h2.int i hlt2
        have hlt' : (i : Int) < l1.length := by omega
        have hlt2' : (i : Int) < l2.length := by omega
        by_cases he : l1[i] = l2[i]
        · have H' : Hid (∀ j, j < i + 1 → l1[j]? = l2[j]?) := Lib.hid fun j hj => by
            by_cases e : j = i
            · subst e; rw [List.getElem?_eq_getElem hlt, List.getElem?_eq_getElem hlt2, he]
            · exact H.out j (by omega)
          have he' : (l1[i] != l2[i]) = false := by simp [he]
          clear he
          generalize l1[i] = u1 at *
          generalize l2[i] = u2 at *
          go_wp2_with fail
          go_quiet (fail)
          go_wp2
          go_roundw
          case rel => exact ⟨i + 1, by omega, by go_num, H', _, rfl⟩
          case measure => simp [intOf]; omega
        · have HN : Hid (decide (l1 = l2) = false) := Lib.hid (decide_eq_false fun e => he (by subst e; rfl))
          have he' : (l1[i] != l2[i]) = true := by simpa using he
          clear he
          generalize l1[i] = u1 at *
          generalize l2[i] = u2 at *
          go_wp2_with fail
          go_quiet (fail)
          go_wp2
          go_ret
          exact ⟨by rw [HN.out]; rfl, n + nq, by simp [World.drewN_drewN]⟩
      · obtain rfl : i = l1.length := by omega
        have HY : Hid (decide (l1 = l2) = true) := Lib.hid (decide_eq_true (eq_upto HL.out H.out))
        go_wp2
        go_ret
        exact ⟨by rw [HY.out]; rfl, _, rfl⟩
  · have hlen' : ((l1.length : Int) != l2.length) = true := by simp; omega
    have HN : Hid (decide (l1 = l2) = false) := Lib.hid (decide_eq_false fun e => hlen (by rw [e]))
    clear hlen
    go_enter Tryz.func8, Tryz.ntmps8
    go_wp2_with fail
    go_ret
    exact ⟨by rw [HN.out]; rfl, 0, rfl⟩
set_option maxHeartbeats 1600000 in
theorem ints66_any (w : World) (A1 A2 : Option Addr) (c1 c2 : Nat) (l1 l2 : List Int) (h1 : SV w w.heap.size A1 (intsV l1)) (h2 : SV w w.heap.size A2 (intsV l2)) (hl1 : l1.length ≤ 9223372036854775807) (hl2 : l2.length ≤ 9223372036854775807) :
    Calls Tryz.prog 52 #[.slice A1 l1.length c1, .slice A2 l2.length c2] w fun e w' => e = .returned (.bool (decide (l1 = l2))) ∧ ∃ n, w' = w.drewN n := by
  by_cases hlen : l1.length = l2.length
  · have hlen' : ((l1.length : Int) != l2.length) = false := by simp [hlen]
    have HL := Lib.hid hlen
    clear hlen
    go_enter Tryz.func52, Tryz.ntmps52
    go_wp2_with fail
    go_loopw [13] (fun k wr => ∃ i : Nat, i ≤ l1.length ∧ k = .int .i64 i ∧ Hid (∀ j, j < i → l1[j]? = l2[j]?) ∧ ∃ n, wr = w.drewN n) (fun k _ => l1.length - (intOf k).toNat)
    case atStart => exact ⟨0, Nat.zero_le _, rfl, Lib.hid (fun j hj => by omega), 0, rfl⟩
    case round =>
      obtain ⟨i, hi, rfl, H, n, rfl⟩ := hrel
      by_cases hlt : i < l1.length
      · have hlt2 : i < l2.length := by rw [← HL.out]; exact hlt
        obtain ⟨b1, o1, rfl, _, x1⟩ := h1.int i hlt
        obtain ⟨b2, o2, rfl, _, x2⟩ := h2.int i hlt2
        have hlt' : (i : Int) < l1.length := by omega
        have hlt2' : (i : Int) < l2.length := by omega
        by_cases he : l1[i] = l2[i]
        · have H' : Hid (∀ j, j < i + 1 → l1[j]? = l2[j]?) := Lib.hid fun j hj => by
            by_cases e : j = i
            · subst e; rw [List.getElem?_eq_getElem hlt, List.getElem?_eq_getElem hlt2, he]
            · exact H.out j (by omega)
          have he' : (l1[i] != l2[i]) = false := by simp [he]
          clear he
          generalize l1[i] = u1 at *
          generalize l2[i] = u2 at *
          go_wp2_with fail
          go_quiet (fail)
          go_wp2
          go_roundw
          case rel => exact ⟨i + 1, by omega, by go_num, H', _, rfl⟩
          case measure => simp [intOf]; omega
        · have HN : Hid (decide (l1 = l2) = false) := Lib.hid (decide_eq_false fun e => he (by subst e; rfl))
          have he' : (l1[i] != l2[i]) = true := by simpa using he
          clear he
          generalize l1[i] = u1 at *
          generalize l2[i] = u2 at *
          go_wp2_with fail
          go_quiet (fail)
          go_wp2
          go_ret
          exact ⟨by rw [HN.out]; rfl, n + nq, by simp [World.drewN_drewN]⟩
      · obtain rfl : i = l1.length := by omega
        have HY : Hid (decide (l1 = l2) = true) := Lib.hid (decide_eq_true (eq_upto HL.out H.out))
        go_wp2
        go_ret
        exact ⟨by rw [HY.out]; rfl, _, rfl⟩
  · have hlen' : ((l1.length : Int) != l2.length) = true := by simp; omega
    have HN : Hid (decide (l1 = l2) = false) := Lib.hid (decide_eq_false fun e => hlen (by rw [e]))
    clear hlen
    go_enter Tryz.func52, Tryz.ntmps52
    go_wp2_with fail
    go_ret
    exact ⟨by rw [HN.out]; rfl, 0, rfl⟩
/-- Equality of two objects. -/
def eqO (a b : Ob.O) : Bool := decide (a.kind = b.kind) && (decide (a.links = b.links) && decide (a.data = b.data))
theorem eqO_iff (a b : Ob.O) : eqO a b = true ↔ a = b := by
  obtain ⟨k1, l1, d1⟩ := a
  obtain ⟨k2, l2, d2⟩ := b
  simp [eqO]
theorem eqO_false {a b : Ob.O} (h : eqO a b = false) : a ≠ b := fun e => by rw [(eqO_iff a b).2 e] at h; cases h
theorem bytesEq_any (w : World) (A1 A2 : Option Addr) (c1 c2 : Nat) (l1 l2 : List UInt8) (h1 : SV w w.heap.size A1 (bytesV l1)) (h2 : SV w w.heap.size A2 (bytesV l2)) :
    Calls Tryz.prog 53 #[.slice A1 l1.length c1, .slice A2 l2.length c2] w fun e w' => e = .returned (.bool (decide (l1 = l2))) ∧ w = w' := by
  have e1 := run_conv_str (P := Tryz.prog) 46 9 5 c1 Tryz.underlying46 Tryz.underlying5 Tryz.underlying9 h1
  have e2 := run_conv_str (P := Tryz.prog) 46 9 5 c2 Tryz.underlying46 Tryz.underlying5 Tryz.underlying9 h2
  by_cases he : l1 = l2
  · subst he
    go_enter Tryz.func53, Tryz.ntmps53
    go_wp2_with fail
    go_ret
    exact ⟨by simp, rfl⟩
  · have he' : (l1 == l2) = false := by simpa using he
    have HN : Hid (decide (l1 = l2) = false) := Lib.hid (decide_eq_false he)
    clear he
    go_enter Tryz.func53, Tryz.ntmps53
    go_wp2_with fail
    go_ret
    exact ⟨by rw [HN.out]; simp, rfl⟩
end Go.Proofs.YtipjejnncnndeaaGreatDoor
namespace Go.Proofs.YtipjejnncnndeaaGreatDoor
open Go.RowKit Go.V
set_option linter.unusedVariables false

theorem info3 : (Tryz.prog.info? 3).map (fun i => (i.zero, i.size, i.bytes)) = some (some (.int .i64 0), 1, 8) := by kernel_rfl


set_option maxRecDepth 100000 in
set_option maxHeartbeats 4000000 in
theorem clone61_any (w : World) (A : Option Addr) (c : Nat) (l : List Int) (h : SV w w.heap.size A (intsV l)) (hl : l.length * 8 ≤ 140737488351232) :
    Calls Tryz.prog 22 #[.slice A l.length c] w fun e w' => ∃ A' c', e = .returned (.slice A' l.length c') ∧ l.length ≤ c' ∧ SA w' (Under w.heap.size) A' (intsV l) ∧ Below w.heap.size w w' := by
  obtain ⟨i0, hi0, hz0, hz1, hz2⟩ := info_parts info3
  have heq : ∀ (W : World) a n c, (binOp .eql 31 (.slice a n c) (.slice none 0 0)).run Tryz.prog W = .ok (.bool a.isNone) W := fun W a n c => Lib.run_eql_slice_nil W 31 3 a n c 0 0 Tryz.underlying31
  rcases A with _ | ad
  · have hl0 : l = [] := by
      rcases h with h | ⟨b, off, h, _⟩
      · simpa [intsV] using h
      · cases h
    subst hl0
    go_enter Tryz.func22, Tryz.ntmps22
    go_wp2_with fail
    go_ret
    exact ⟨none, 0, rfl, Nat.le_refl _, SA.nil, Below.refl _ _⟩
  · go_enter Tryz.func22, Tryz.ntmps22
    go_wp2_with (first | (at_builtin; refine wpList_appN _ rfl (.tmp 5) (.tmp 6) 31 rfl w.heap.size 3 i0 (.int .i64 0) 1 8 Tryz.underlying31 hi0 hz0 hz1 hz2 rfl (by decide) (some ⟨w.heap.size, 0, none⟩) 0 0 [] rfl (World.ownsRow_lit w #[] 0 (Nat.le_refl _) (by simp [maxLen]) rfl) _ (some ad) l.length c (intsV l) rfl ?ha (SV.alloc h (Nat.le_refl _) _) (intsV_one _) ?hb ?hc ?hd ?_))
    case ha => simp
    case hb => simp [maxLen]; omega
    case hc => omega
    case hd => simp
    intro A' c' w' hown hg hc'
    have hb := (below_alloc1 w (.cells #[] 3)).grown hg (by simp) (fun k hk => by simp [Value.ownBlock] at hk; omega)
    try simp only [Nat.zero_add, List.nil_append] at *
    have hsa := SA.of_own (X := Under w.heap.size) hown (fun b hb => hb)
    go_wp2_with fail
    go_ret
    exact ⟨A', c', rfl, hc', hsa, hb⟩

set_option maxRecDepth 100000 in
set_option maxHeartbeats 4000000 in
theorem clone62_any (w : World) (A : Option Addr) (c : Nat) (l : List UInt8) (h : SV w w.heap.size A (bytesV l)) (hl : l.length * 1 ≤ 140737488351232) :
    Calls Tryz.prog 50 #[.slice A l.length c] w fun e w' => ∃ A' c', e = .returned (.slice A' l.length c') ∧ l.length ≤ c' ∧ SA w' (Under w.heap.size) A' (bytesV l) ∧ Below w.heap.size w w' := by
  obtain ⟨i0, hi0, hz0, hz1, hz2⟩ := info_parts info5
  have heq : ∀ (W : World) a n c, (binOp .eql 46 (.slice a n c) (.slice none 0 0)).run Tryz.prog W = .ok (.bool a.isNone) W := fun W a n c => Lib.run_eql_slice_nil W 46 5 a n c 0 0 Tryz.underlying46
  rcases A with _ | ad
  · have hl0 : l = [] := by
      rcases h with h | ⟨b, off, h, _⟩
      · simpa [bytesV] using h
      · cases h
    subst hl0
    go_enter Tryz.func50, Tryz.ntmps50
    go_wp2_with fail
    go_ret
    exact ⟨none, 0, rfl, Nat.le_refl _, SA.nil, Below.refl _ _⟩
  · go_enter Tryz.func50, Tryz.ntmps50
    go_wp2_with (first | (at_builtin; refine wpList_appN _ rfl (.tmp 5) (.tmp 6) 46 rfl w.heap.size 5 i0 (.int .u8 0) 1 1 Tryz.underlying46 hi0 hz0 hz1 hz2 rfl (by decide) (some ⟨w.heap.size, 0, none⟩) 0 0 [] rfl (World.ownsRow_lit w #[] 0 (Nat.le_refl _) (by simp [maxLen]) rfl) _ (some ad) l.length c (bytesV l) rfl ?ha (SV.alloc h (Nat.le_refl _) _) (bytesV_one _) ?hb ?hc ?hd ?_))
    case ha => simp
    case hb => simp [maxLen]; omega
    case hc => omega
    case hd => simp
    intro A' c' w' hown hg hc'
    have hb := (below_alloc1 w (.cells #[] 5)).grown hg (by simp) (fun k hk => by simp [Value.ownBlock] at hk; omega)
    try simp only [Nat.zero_add, List.nil_append] at *
    have hsa := SA.of_own (X := Under w.heap.size) hown (fun b hb => hb)
    go_wp2_with fail
    go_ret
    exact ⟨A', c', rfl, hc', hsa, hb⟩

set_option maxRecDepth 100000 in
set_option maxHeartbeats 4000000 in
theorem same_any (w : World) (o1 o2 : Ob.O) (Al1 : Option Addr) (kl1 : Nat) (Ad1 : Option Addr) (kd1 : Nat) (Al2 : Option Addr) (kl2 : Nat) (Ad2 : Option Addr) (kd2 : Nat) (h1 : ObA w Free o1 Al1 kl1 Ad1 kd1) (h2 : ObA w Free o2 Al2 kl2 Ad2 kd2) :
    Calls Tryz.prog 33 #[obV o1 Al1 kl1 Ad1 kd1, obV o2 Al2 kl2 Ad2 kd2] w fun e w' => e = .returned (.bool (eqO o1 o2)) ∧ Below w.heap.size w w' := by
  have HI := Lib.hid (fun (w' : World) (hb : Below w.heap.size w w') => ints66_any w' Al1 Al2 kl1 kl2 o1.links o2.links (h1.ls.keep (free_below hb)).sv (h2.ls.keep (free_below hb)).sv (by have := h1.ll; omega) (by have := h2.ll; omega))
  have HE := Lib.hid (fun (w' : World) (hb : Below w.heap.size w w') => bytesEq_any w' Ad1 Ad2 kd1 kd2 o1.data o2.data (h1.ds.keep (free_below hb)).sv (h2.ds.keep (free_below hb)).sv)
  have HQ := Lib.hid (show eqO o1 o2 = (decide (o1.kind = o2.kind) && (decide (o1.links = o2.links) && decide (o1.data = o2.data))) from rfl)
  clear h1 h2
  obtain ⟨kk1, ls1, da1⟩ := o1
  obtain ⟨kk2, ls2, da2⟩ := o2
  simp only at HI HQ HE ⊢
  generalize eqO _ _ = q at *
  by_cases hk : kk1 = kk2
  · subst hk
    have hkk : (kk1 == kk1) = true := by simp
    go_enter Tryz.func33, Tryz.ntmps33
    go_wp2_with fail
    go_at_call 52
    refine (HI.out _ (below_alloc2 _ _ _)).mono ?_
    rintro e w1 ⟨rfl, n, rfl⟩
    have hb1 : Below w.heap.size w (((w.alloc (.cells #[.int .i64 kk1, .slice Al1 ls1.length kl1, .slice Ad1 da1.length kd1] 48)).alloc (.cells #[.int .i64 kk1, .slice Al2 ls2.length kl2, .slice Ad2 da2.length kd2] 48)).drewN n) := Go.V.below_drewN (below_alloc2 _ _ _) n
    by_cases hll : ls1 = ls2
    · subst hll
      have hl1 : decide (ls1 = ls1) = true := decide_eq_true rfl
      rw [hl1]
      have HQ2 : Hid (q = decide (da1 = da2)) := Lib.hid (by rw [HQ.out]; simp)
      have HE2 := Lib.hid (HE.out _ hb1)
      generalize hq : decide (da1 = da2) = dd at *
      have HDD := Lib.hid hq
      clear hq hl1
      go_wp2_with fail
      go_at_call 53
      refine HE2.out.mono ?_
      rintro e w2 ⟨rfl, rfl⟩
      go_wp2_with fail
      go_ret
      exact ⟨by rw [HQ2.out]; rfl, hb1⟩
    · have hl1 : decide (ls1 = ls2) = false := decide_eq_false hll
      rw [hl1]
      have HQ2 : Hid (q = false) := Lib.hid (by rw [HQ.out]; simp [hll])
      clear hll
      go_wp2_with fail
      go_ret
      exact ⟨by rw [HQ2.out]; rfl, hb1⟩
  · have hkk : (kk1 == kk2) = false := by simpa using hk
    have HQ2 : Hid (q = false) := Lib.hid (by rw [HQ.out]; simp [hk])
    clear hk
    go_enter Tryz.func33, Tryz.ntmps33
    go_wp2_with fail
    go_ret
    exact ⟨by rw [HQ2.out]; rfl, below_alloc2 _ _ _⟩
end Go.Proofs.YtipjejnncnndeaaGreatDoor
namespace Go.Proofs.YtipjejnncnndeaaGreatDoor
open Go.RowKit Go.V Go.Shelf Go.Sort
set_option linter.unusedVariables false

theorem sortedI_block {w : World} {n g i : Nat} {d : Array Int} {os : Array Obj} (hi : i < w.heap.size) (hne : i ≠ g) : (Sort.grow (Sort.putRow (Value.int .i64) (Sort.ahead w n) g 0 d) os).heap[i]? = w.heap[i]? := by
  rw [Sort.heap_grow_old _ _ (by simpa using hi)]
  simp [Sort.putRow, Sort.mapBlock, Array.getElem?_modify, Ne.symm hne]
/-- The sort of a row of the call's own. -/
theorem sort_any (w : World) (base : Nat) (B : Option Addr) (c : Nat) (xs : List Int) (hown : w.ownsRow base 3 1 (.slice B xs.length c) xs.length (intsV xs)) (hl : xs.length ≤ 1000000) :
    Calls Tryz.prog 21 #[.slice B xs.length c] w fun e w' => e = .returned (.tuple #[]) ∧ Below base w w' ∧ SA w' (Under base) B (intsV (xs.mergeSort fun a b => decide (a ≤ b))) := by
  by_cases h0 : xs = []
  · subst h0
    refine (Tryz.slices_Sort_int_none B c w).mono fun e w' ⟨h1, h2⟩ => ?_
    subst h2
    exact ⟨h1, Below.refl _ _, by simpa [intsV] using SA.nil⟩
  · obtain ⟨_, h | ⟨g, cap, cur, e, hg, hh, hn, hm, hs, hx⟩⟩ := hown
    · exact absurd (List.length_eq_zero_iff.1 h.2) h0
    · injection e with e1 _ e2
      subst e1
      subst e2
      have hb : Blk w g 3 cur := hh
      have hc : ∀ j (hj : j < xs.length), w.cell? ⟨g, 0 + j, none⟩ = some (.int .i64 xs[j]) := fun j hj => by
        rw [Nat.zero_add, hb.cell j, ← Array.getElem?_toList]
        have g0 : (intsV xs)[j]? = some (.int .i64 xs[j]) := by simp [intsV, hj]
        have : (cur.toList.take (xs.length * 1))[j]? = some (.int .i64 xs[j]) := by rw [hx]; exact g0
        rw [List.getElem?_take] at this
        split at this
        · exact this
        · cases this
      have hH : Sort.Holds (Value.int .i64) w g 0 xs.toArray := fun j hj => by
        have hj' : j < xs.length := by simpa using hj
        refine ⟨?_, hb.frozen _⟩
        rw [hc j hj', getElem!_pos xs.toArray j hj, List.getElem_toArray]
      refine (Tryz.slices_Sort_int g 0 c xs w hH hb.lt (by omega)).mono fun e w' ⟨h1, n, os, h2⟩ => ?_
      have hp := List.mergeSort_perm xs (fun a b => decide (a ≤ b))
      have hpl := hp.length_eq
      generalize (xs.mergeSort fun a b => decide (a ≤ b)) = ys at *
      have hcell : ∀ j (hj : j < ys.length), w'.cell? ⟨g, 0 + j, none⟩ = some (.int .i64 ys[j]) := fun j hj => by
        rw [h2, Sort.cell?_grow _ _ _ (by simpa using hb.lt), Sort.cell?_putRow (Value.int .i64) (Sort.ahead w n) g 0 xs.toArray ys.toArray (Sort.holds_ahead _ _ _ _ _ _ hH) (by simpa using hpl) j (by simpa using hj),
          getElem!_pos ys.toArray j (by simpa using hj), List.getElem_toArray]
      have hsz : w.heap.size ≤ w'.heap.size := by rw [h2]; simp
      refine ⟨h1, ⟨by rw [h2]; simp [Sort.grow, Sort.putRow, Sort.mapBlock, Sort.ahead], by rw [h2]; simp [Sort.grow, Sort.putRow, Sort.mapBlock, Sort.ahead], by rw [h2]; simp [Sort.grow, Sort.putRow, Sort.mapBlock, Sort.ahead], hsz, fun i hi => ?_⟩, .inr ⟨g, 0, rfl, Nat.lt_of_lt_of_le hb.lt hsz, fun hU => by unfold Under at hU; omega, fun j u hu => ?_⟩⟩
      · rw [h2]; exact sortedI_block (by have := hb.lt; omega) (by omega)
      · have hj : j < ys.length := by have := (List.getElem?_eq_some_iff.1 hu).1; simpa using this
        rw [hcell j hj, ← hu]
        simp [intsV, hj]
/-- What 'sorted' answers: the members of the set, growing. -/
def SoPost (w : World) (m : Int → Bool) (e : Ending) (w' : World) : Prop := ∃ A c L, e = .returned (.slice A L.length c) ∧ SA w' (Under w.heap.size) A (intsV L) ∧ L.Pairwise (· < ·) ∧ (∀ d, d ∈ L ↔ m d = true) ∧ L.length ≤ 1000000 ∧ Below w.heap.size w w'
theorem SoPost.mk_ {w w' : World} {m : Int → Bool} {c : List Int} {A : Option Addr} {k : Nat} (hn : c.Nodup) (hm : ∀ d, d ∈ c ↔ m d = true) (hl : c.length ≤ 1000000) (hs : SA w' (Under w.heap.size) A (intsV (c.mergeSort fun a b => decide (a ≤ b)))) (hb : Below w.heap.size w w') :
    SoPost w m (.returned (.slice A c.length k)) w' := by
  have hp := List.mergeSort_perm c (fun a b => decide (a ≤ b))
  have hpw : (c.mergeSort fun a b => decide (a ≤ b)).Pairwise (fun a b => decide (a ≤ b) = true) := List.pairwise_mergeSort (fun a b c h1 h2 => by simp at *; omega) (fun a b => by simp; omega) c
  refine ⟨A, k, _, by rw [hp.length_eq], hs, ?_, fun d => hp.mem_iff.trans (hm d), by rw [hp.length_eq]; exact hl, hb⟩
  have hn' : (c.mergeSort fun a b => decide (a ≤ b)).Nodup := hp.nodup_iff.2 hn
  refine (hpw.and hn').imp ?_
  rintro a b ⟨h1, h2⟩
  simp at h1
  omega
/-- The state of the loop of 'sorted'. -/
structure SoSt (w wr : World) (b n : Nat) (m : Int → Bool) (D : DataW Unit) (left : Lit → Bool) (cnt : Nat) (c : List Int) (A : Option Addr) (k : Nat) : Prop where
  rg : wr.ranges Tryz.prog 3 (plainElem Tryz.prog 4) b w.heap.size n D left cnt
  got : Got m left c
  own : wr.ownsRow (w.heap.size + 1) 3 1 (.slice A c.length k) c.length (intsV c)
  cn : c.length + cnt ≤ n
  bel : Below w.heap.size w wr
  hi : w.heap.size + 1 ≤ wr.heap.size
set_option maxRecDepth 100000 in
set_option maxHeartbeats 8000000 in
theorem sorted_any (w : World) (b n : Nat) (m : Int → Bool) (hv : SetV w b n m) (hn : n ≤ 1000) :
    Calls Tryz.prog 12 #[.map (some b)] w (SoPost w m) := by
  obtain ⟨i0, hi0, hz0, hz1, hz2⟩ := info_parts info3
  obtain ⟨D, hown, hD⟩ := hv
  have HD := Lib.hid hD
  have hlt := hown.lt
  go_enter Tryz.func12, Tryz.ntmps12
  go_wp2_with (first | (refine wpList_range_own _ rfl _ 53 rfl 3 4 key3 Tryz.underlying53 _ b n D rfl hown ?_; intro w0 hrg0 hg0 hs0))
  simp only [Act.put, List.setIfInBounds_toArray, List.set_cons_succ, List.set_cons_zero]
  have st0 : SoSt w w0 b n m D (Maps.has D) (Maps.size D) [] none 0 :=
    ⟨hrg0, Got.start hD, World.ownsRow_nil _ _ _ _, by simpa using hown.size_le, below_of_only hg0 (Nat.le_refl _) (by simp), by omega⟩
  clear hrg0 hg0 hs0
  go_loopw [3] (fun v wr => ∃ left cnt c A k, v = .slice A c.length k ∧ SoSt w wr b n m D left cnt c A k) (fun _ wr => wr.rangeLeft b w.heap.size)
  case atStart => exact ⟨_, _, [], none, 0, rfl, st0⟩
  case round =>
    obtain ⟨left, cnt, c, A, k, rfl, st⟩ := hrel
    obtain ⟨hrg, hgot, hrow, hcn, hbel, hhi⟩ := st
    have HGOT := Lib.hid hgot
    have HCN := Lib.hid hcn
    clear hgot hcn
    go_wp2_with (first
      | (refine wpList_next_set _ rfl _ rfl b w.heap.size n _ _ _ rfl hrg ?_ ?_))
    · intro hl0
      have hlen : c.length ≤ 1000000 := by have := HCN.out; omega
      have HSO := Lib.hid (sort_any wr (w.heap.size + 1) A k c hrow hlen)
      have HP := Lib.hid (fun (w' : World) hs hb => SoPost.mk_ (w := w) (w' := w') (k := k) (A := A) HGOT.out.nd (HGOT.out.done hl0) hlen hs hb)
      clear hl0 hrg hrow
      go_wp2_with (go_at_call 21; with_reducible refine HSO.out.mono ?_; rintro e w1 ⟨rfl, hb1, hsa⟩)
      go_ret
      exact HP.out _ (hsa.mono fun b hb => Nat.lt_succ_of_lt hb) (hbel.trans (hb1.mono (Nat.le_succ _)))
    · intro x xv xd w2 cnt2 hx hlx hat hrg2 hlt2 hg2 hs2 hen
      have hr0 : some w.heap.size ≠ (Value.slice A c.length k).ownBlock := fun e => by have := (hrow.lt _ e.symm).1; omega
      have hb0 : some b ≠ (Value.slice A c.length k).ownBlock := fun e => by have := (hrow.lt _ e.symm).1; omega
      have hrow2 := hrow.kept hg2 (Or.inr hr0.symm)
      have hsz2 := hg2.size
      have HX := Lib.hid hx
      have HST := Lib.hid (HGOT.out.step HD.out hx hlx hat)
      have h63 : c.length + 1 ≤ maxLen := by have := HCN.out; unfold maxLen; omega
      have hby : (c.length + 1) * 8 ≤ 140737488355328 := by have := HCN.out; omega
      have hbase : w.heap.size + 1 ≤ (w2.alloc (.cells #[.int .i64 x] 3)).heap.size := by simp; omega
      have hu : (w2.alloc (.cells #[.int .i64 x] 3)).cell? ⟨w2.heap.size, 0, none⟩ = some (.int .i64 x) := ((Blk.new w2 3 #[.int .i64 x]).cell 0).trans rfl
      have hmea := hrg.left_eq
      clear hs2 hlx hat hx hrg hrow
      go_wp2_with (first
        | (at_builtin; refine wpList_app1 _ rfl (.tmp 11) (.tmp 13) 31 rfl (w.heap.size + 1) 3 i0 (.int .i64 0) 8 Tryz.underlying31 hi0 hz0 hz1 hz2 rfl A c.length k (intsV c) rfl (hrow2.alloc _) w2.heap.size 1 (.int .i64 x) rfl hu rfl h63 hby hbase ?_; intro A' k' w3 hown3 hg3 hk3))
      have hrg3 := (hrg2.alloc (.cells #[.int .i64 x] 3)).kept hg3 hb0 hr0
      go_roundw
      case rel =>
        refine ⟨_, cnt2, c ++ [x], A', k', by simp, hrg3, HST.out, ?_, by have := HCN.out; simp; omega, ?_, by have := hg3.size; simp at this; omega⟩
        · simpa [intsV] using hown3
        · exact ((hbel.grown hg2 hbel.size (fun j hj => by cases hj; exact Nat.le_refl _)).alloc (by have := hbel.size; omega) _).grown hg3 (by have := hbel.size; simp; omega) (fun j hj => by have := (hrow2.lt j hj).1; omega)
      case measure => rw [hrg3.left_eq, hmea]; exact hlt2
end Go.Proofs.YtipjejnncnndeaaGreatDoor
