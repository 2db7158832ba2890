/- Proofs about the given program, joined out of the texts Shelf, D1, D2, S6, S7, D3. -/
import Derived.Test.YtccnemmlkcmceaaGreatDoorHB2
import Derived.Shelf.Strings.Builder1
import Derived.Shelf.Strings.Builder2
import Derived.Shelf.Strings.Trim
import Derived.Shelf.Small.Utf8
import Derived.Shelf.Small.Bits
import Derived.Shelf.Small.Strs
import Derived.Shelf.Strings.BuilderF
import Derived.Shelf.Strings.BuilderK
import Derived.Shelf.Strings.Builder2Cap
import Derived.Shelf.Strconv.Itoa0
import Derived.Shelf.Strings.Search1
import Derived.Shelf.Strings.Prefix
import Derived.Shelf.Unicode.Decode
import Derived.Shelf.Strings.Runes
import Derived.Shelf.Strings.AsciiSet
import Derived.Shelf.Bits.Mul64
import Derived.Shelf.Strings.Repeat
import Derived.Shelf.Unicode.DecodeSlow
import Derived.Shelf.Unicode.DecodeAny
import Derived.Shelf.Unicode.DecodeLast
import Derived.Shelf.Strings.BuilderCap
import Derived.Shelf.Slices.Reverse
import Derived.Ground.Names2Prog
import Derived.Shelf.Slices.ReverseS
import Derived.Shelf.Slices.Clone
import Derived.Shelf.Slices.SearchI
import Derived.Shelf.Slices.Delete
import Derived.Shelf.Slices.Cells
import Derived.Shelf.Slices.Empties
import Derived.Ground.SlgnProg
import Derived.Shelf.SlicesE.Clone
import Derived.Test.YtccnemmlkcmceaaGreatDoorProg
set_option linter.unusedVariables false
set_option linter.unusedSimpArgs false
set_option maxRecDepth 100000
set_option maxHeartbeats 6400000
namespace Go.Proofs
open Go.Shelf
def Tryz.lays170_ren : Go.Shelf.Ren := ⟨fun | 170 => 49 | n => n,fun | 70 => 97 | 3 => 3 | 0 => 0 | 72 => 100 | 37 => 98 | 5 => 5 | n => n,fun | n => n⟩
theorem Tryz.lays170 : Go.Proofs.Lays.n170 Tryz.prog Tryz.lays170_ren := {
 mixed := by kernel_rfl
 f170 := Tryz.func49.trans (congrArg some (by kernel_rfl))
 t0 := Tryz.underlying0
 a0 := Tryz.isAgg0
 z0 := Tryz.sizeOf0
 v0 := Tryz.zeroValue0
 t3 := Tryz.underlying3
 a3 := Tryz.isAgg3
 z3 := Tryz.sizeOf3
 v3 := Tryz.zeroValue3
 t37 := Tryz.underlying98
 a37 := Tryz.isAgg98
 z37 := Tryz.sizeOf98
 v37 := Tryz.zeroValue98
 t70 := Tryz.underlying97
 a70 := Tryz.isAgg97
 z70 := Tryz.sizeOf97
 v70 := Tryz.zeroValue97
 t72 := Tryz.underlying100
 a72 := Tryz.isAgg100
 z72 := Tryz.sizeOf100
 v72 := Tryz.zeroValue100 }
open Go.RowKit in
theorem Tryz.Builder_Len (B b : Nat) (bs : List Value) (w : World) (h : Lib.IsBuilder 100 5 B b bs w) :
  Calls Tryz.prog 49 #[.pointer (some ⟨b,0,none⟩)] w fun e w' => e = .returned (.int .i64 bs.length) ∧ w' = w := Any.Builder_Len Tryz.lays170 B b bs w h
def Tryz.lays169_ren : Go.Shelf.Ren := ⟨fun | 169 => 52 | n => n,fun | 70 => 97 | 9 => 9 | 0 => 0 | 72 => 100 | 37 => 98 | 127 => 159 | 3 => 3 | 5 => 5 | n => n,fun | n => n⟩
theorem Tryz.lays169 : Go.Proofs.Lays.n169 Tryz.prog Tryz.lays169_ren := {
 mixed := by kernel_rfl
 f169 := Tryz.func52.trans (congrArg some (by kernel_rfl))
 t0 := Tryz.underlying0
 a0 := Tryz.isAgg0
 z0 := Tryz.sizeOf0
 v0 := Tryz.zeroValue0
 t3 := Tryz.underlying3
 a3 := Tryz.isAgg3
 z3 := Tryz.sizeOf3
 v3 := Tryz.zeroValue3
 t9 := Tryz.underlying9
 a9 := Tryz.isAgg9
 z9 := Tryz.sizeOf9
 v9 := Tryz.zeroValue9
 t37 := Tryz.underlying98
 a37 := Tryz.isAgg98
 z37 := Tryz.sizeOf98
 v37 := Tryz.zeroValue98
 t70 := Tryz.underlying97
 a70 := Tryz.isAgg97
 z70 := Tryz.sizeOf97
 v70 := Tryz.zeroValue97
 t72 := Tryz.underlying100
 a72 := Tryz.isAgg100
 z72 := Tryz.sizeOf100
 v72 := Tryz.zeroValue100
 t127 := Tryz.underlying159
 a127 := Tryz.isAgg159
 z127 := Tryz.sizeOf159
 v127 := Tryz.zeroValue159 }
theorem Tryz.Builder_Extra_169 : Builder.Extra Tryz.prog Tryz.lays169_ren := {
 sizeBuilder := by kernel_rfl
 liesBuilder := by kernel_rfl
 t5 := Tryz.underlying5
 a5 := Tryz.isAgg5
 z5 := Tryz.sizeOf5
 v5 := Tryz.zeroValue5
 infoByte := by kernel_rfl
 cellsByte := by kernel_rfl
 sizeByte := by kernel_rfl
 neB5 := by decide }
open Go.RowKit in
theorem Tryz.Builder_String_any (B b : Nat) (l : List UInt8) (w : World) (h : Lib.IsBuilder 100 5 B b (Lib.byteCells l) w) (hBw : B ≤ w.heap.size) :
  Calls Tryz.prog 52 #[.pointer (some ⟨b,0,none⟩)] w fun e w' => e = .returned (.string ⟨l.toArray⟩) ∧ Below B w w' := Any.Builder_String_any Tryz.lays169 Tryz.Builder_Extra_169 B b l w h hBw
def Tryz.lays160_ren : Go.Shelf.Ren := ⟨fun | 160 => 125 | 232 => 168 | 231 => 167 | 227 => 169 | 234 => 171 | 233 => 170 | 236 => 173 | 235 => 172 | 228 => 196 | 271 => 199 | 151 => 198 | 197 => 197 | 120 => 222 | 152 => 221 | 260 => 220 | 137 => 232 | 119 => 233 | 224 => 234 | 225 => 235 | 217 => 237 | 266 => 238 | n => n,fun | 9 => 9 | 4 => 4 | 3 => 3 | 5 => 5 | 117 => 230 | 116 => 229 | 0 => 0 | 124 => 233 | 21 => 21 | 105 => 255 | 46 => 158 | 119 => 284 | 139 => 287 | 138 => 286 | n => n,fun | 3 => 2 | 4 => 3 | n => n⟩
theorem Tryz.lays160 : Go.Proofs.Lays.n160 Tryz.prog Tryz.lays160_ren := {
 mixed := by kernel_rfl
 f119 := Tryz.func233.trans (congrArg some (by kernel_rfl))
 f120 := Tryz.func222.trans (congrArg some (by kernel_rfl))
 f137 := Tryz.func232.trans (congrArg some (by kernel_rfl))
 f151 := Tryz.func198.trans (congrArg some (by kernel_rfl))
 f152 := Tryz.func221.trans (congrArg some (by kernel_rfl))
 f160 := Tryz.func125.trans (congrArg some (by kernel_rfl))
 f197 := Tryz.func197.trans (congrArg some (by kernel_rfl))
 f217 := Tryz.func237.trans (congrArg some (by kernel_rfl))
 f224 := Tryz.func234.trans (congrArg some (by kernel_rfl))
 f225 := Tryz.func235.trans (congrArg some (by kernel_rfl))
 f227 := Tryz.func169.trans (congrArg some (by kernel_rfl))
 f228 := Tryz.func196.trans (congrArg some (by kernel_rfl))
 f231 := Tryz.func167.trans (congrArg some (by kernel_rfl))
 f232 := Tryz.func168.trans (congrArg some (by kernel_rfl))
 f233 := Tryz.func170.trans (congrArg some (by kernel_rfl))
 f234 := Tryz.func171.trans (congrArg some (by kernel_rfl))
 f235 := Tryz.func172.trans (congrArg some (by kernel_rfl))
 f236 := Tryz.func173.trans (congrArg some (by kernel_rfl))
 f260 := Tryz.func220.trans (congrArg some (by kernel_rfl))
 f266 := Tryz.func238.trans (congrArg some (by kernel_rfl))
 f271 := Tryz.func199.trans (congrArg some (by kernel_rfl))
 t0 := Tryz.underlying0
 a0 := Tryz.isAgg0
 z0 := Tryz.sizeOf0
 v0 := Tryz.zeroValue0
 t3 := Tryz.underlying3
 a3 := Tryz.isAgg3
 z3 := Tryz.sizeOf3
 v3 := Tryz.zeroValue3
 t4 := Tryz.underlying4
 a4 := Tryz.isAgg4
 z4 := Tryz.sizeOf4
 v4 := Tryz.zeroValue4
 t5 := Tryz.underlying5
 a5 := Tryz.isAgg5
 z5 := Tryz.sizeOf5
 v5 := Tryz.zeroValue5
 t9 := Tryz.underlying9
 a9 := Tryz.isAgg9
 z9 := Tryz.sizeOf9
 v9 := Tryz.zeroValue9
 t21 := Tryz.underlying21
 a21 := Tryz.isAgg21
 z21 := Tryz.sizeOf21
 v21 := Tryz.zeroValue21
 t46 := Tryz.underlying158
 a46 := Tryz.isAgg158
 z46 := Tryz.sizeOf158
 v46 := Tryz.zeroValue158
 t105 := Tryz.underlying255
 a105 := Tryz.isAgg255
 z105 := Tryz.sizeOf255
 v105 := Tryz.zeroValue255
 t116 := Tryz.underlying229
 a116 := Tryz.isAgg229
 z116 := Tryz.sizeOf229
 t117 := Tryz.underlying230
 a117 := Tryz.isAgg230
 z117 := Tryz.sizeOf230
 v117 := Tryz.zeroValue230
 t119 := Tryz.underlying284
 a119 := Tryz.isAgg284
 z119 := Tryz.sizeOf284
 t124 := Tryz.underlying233
 a124 := Tryz.isAgg233
 z124 := Tryz.sizeOf233
 v124 := Tryz.zeroValue233
 t138 := Tryz.underlying286
 a138 := Tryz.isAgg286
 z138 := Tryz.sizeOf286
 v138 := Tryz.zeroValue286
 t139 := Tryz.underlying287
 a139 := Tryz.isAgg287
 z139 := Tryz.sizeOf287
 v139 := Tryz.zeroValue287
 g3 := by kernel_rfl
 g4 := by kernel_rfl }
open Go.RowKit in
theorem Tryz.strings_Trim_one (s : ByteArray) (c : UInt8) (hc : c.toNat < 128) (w : World) (hs : s.size ≤ 9223372036854775807) :
  Calls Tryz.prog 125 #[.string s,.string ⟨#[c]⟩] w fun e w' => e = .returned (.string ⟨(Lib.trimB s.data.toList c).toArray⟩) ∧ (w' = w ∨ w' = w.drew) := Any.strings_Trim_one Tryz.lays160 s c hc w hs
def Tryz.lays213_ren : Go.Shelf.Ren := ⟨fun | 213 => 177 | 265 => 200 | n => n,fun | 9 => 9 | 3 => 3 | n => n,fun | n => n⟩
def Tryz.lays106_ren : Go.Shelf.Ren := ⟨fun | 106 => 138 | 213 => 177 | 265 => 200 | n => n,fun | 9 => 9 | 3 => 3 | n => n,fun | n => n⟩
theorem Tryz.lays106 : Go.Proofs.Lays.n106 Tryz.prog Tryz.lays106_ren := {
 mixed := by kernel_rfl
 f106 := Tryz.func138.trans (congrArg some (by kernel_rfl))
 f213 := Tryz.func177.trans (congrArg some (by kernel_rfl))
 f265 := Tryz.func200.trans (congrArg some (by kernel_rfl))
 t3 := Tryz.underlying3
 a3 := Tryz.isAgg3
 z3 := Tryz.sizeOf3
 v3 := Tryz.zeroValue3
 t9 := Tryz.underlying9
 a9 := Tryz.isAgg9
 z9 := Tryz.sizeOf9
 v9 := Tryz.zeroValue9 }
open Go.RowKit in
theorem Tryz.strings_Compare (a b : ByteArray) (w : World) :
  Calls Tryz.prog 138 #[.string a,.string b] w fun e w' => e = .returned (.int .i64 (Lib.compareBytes a.data.toList b.data.toList)) ∧ w' = w := Any.strings_Compare Tryz.lays106 a b w
def Tryz.lays105_ren : Go.Shelf.Ren := ⟨fun | 105 => 120 | 212 => 164 | 99 => 165 | 165 => 166 | 166 => 51 | 170 => 49 | 169 => 52 | 263 => 192 | 264 => 193 | 206 => 194 | 240 => 92 | 241 => 195 | 276 => 133 | 277 => 219 | n => n,fun | 9 => 9 | 3 => 3 | 4 => 4 | 20 => 20 | 0 => 0 | 46 => 158 | 109 => 223 | 5 => 5 | 72 => 100 | 76 => 103 | 51 => 192 | 146 => 250 | 53 => 185 | 148 => 252 | 70 => 97 | 37 => 98 | 75 => 102 | 127 => 159 | 164 => 197 | 80 => 105 | n => n,fun | n => n⟩
theorem Tryz.lays105 : Go.Proofs.Lays.n105 Tryz.prog Tryz.lays105_ren := {
 mixed := by kernel_rfl
 f99 := Tryz.func165.trans (congrArg some (by kernel_rfl))
 f105 := Tryz.func120.trans (congrArg some (by kernel_rfl))
 f165 := Tryz.func166.trans (congrArg some (by kernel_rfl))
 f166 := Tryz.func51.trans (congrArg some (by kernel_rfl))
 f169 := Tryz.func52.trans (congrArg some (by kernel_rfl))
 f170 := Tryz.func49.trans (congrArg some (by kernel_rfl))
 f206 := Tryz.func194.trans (congrArg some (by kernel_rfl))
 f212 := Tryz.func164.trans (congrArg some (by kernel_rfl))
 f240 := Tryz.func92.trans (congrArg some (by kernel_rfl))
 f241 := Tryz.func195.trans (congrArg some (by kernel_rfl))
 f263 := Tryz.func192.trans (congrArg some (by kernel_rfl))
 f264 := Tryz.func193.trans (congrArg some (by kernel_rfl))
 f276 := Tryz.func133.trans (congrArg some (by kernel_rfl))
 f277 := Tryz.func219.trans (congrArg some (by kernel_rfl))
 t0 := Tryz.underlying0
 a0 := Tryz.isAgg0
 z0 := Tryz.sizeOf0
 v0 := Tryz.zeroValue0
 t3 := Tryz.underlying3
 a3 := Tryz.isAgg3
 z3 := Tryz.sizeOf3
 v3 := Tryz.zeroValue3
 t4 := Tryz.underlying4
 a4 := Tryz.isAgg4
 z4 := Tryz.sizeOf4
 v4 := Tryz.zeroValue4
 t5 := Tryz.underlying5
 a5 := Tryz.isAgg5
 z5 := Tryz.sizeOf5
 v5 := Tryz.zeroValue5
 t9 := Tryz.underlying9
 a9 := Tryz.isAgg9
 z9 := Tryz.sizeOf9
 v9 := Tryz.zeroValue9
 t20 := Tryz.underlying20
 a20 := Tryz.isAgg20
 z20 := Tryz.sizeOf20
 v20 := Tryz.zeroValue20
 t37 := Tryz.underlying98
 a37 := Tryz.isAgg98
 z37 := Tryz.sizeOf98
 v37 := Tryz.zeroValue98
 t46 := Tryz.underlying158
 a46 := Tryz.isAgg158
 z46 := Tryz.sizeOf158
 v46 := Tryz.zeroValue158
 t51 := Tryz.underlying192
 a51 := Tryz.isAgg192
 z51 := Tryz.sizeOf192
 v51 := Tryz.zeroValue192
 t53 := Tryz.underlying185
 a53 := Tryz.isAgg185
 z53 := Tryz.sizeOf185
 v53 := Tryz.zeroValue185
 t70 := Tryz.underlying97
 a70 := Tryz.isAgg97
 z70 := Tryz.sizeOf97
 v70 := Tryz.zeroValue97
 t72 := Tryz.underlying100
 a72 := Tryz.isAgg100
 z72 := Tryz.sizeOf100
 v72 := Tryz.zeroValue100
 t75 := Tryz.underlying102
 a75 := Tryz.isAgg102
 z75 := Tryz.sizeOf102
 v75 := Tryz.zeroValue102
 t76 := Tryz.underlying103
 a76 := Tryz.isAgg103
 z76 := Tryz.sizeOf103
 v76 := Tryz.zeroValue103
 t109 := Tryz.underlying223
 a109 := Tryz.isAgg223
 z109 := Tryz.sizeOf223
 v109 := Tryz.zeroValue223
 t127 := Tryz.underlying159
 a127 := Tryz.isAgg159
 z127 := Tryz.sizeOf159
 v127 := Tryz.zeroValue159
 t146 := Tryz.underlying250
 a146 := Tryz.isAgg250
 z146 := Tryz.sizeOf250
 v146 := Tryz.zeroValue250
 t148 := Tryz.underlying252
 a148 := Tryz.isAgg252
 z148 := Tryz.sizeOf252
 v148 := Tryz.zeroValue252
 t164 := Tryz.underlying197
 a164 := Tryz.isAgg197
 z164 := Tryz.sizeOf197
 v164 := Tryz.zeroValue197 }
theorem Tryz.Builder_Extra_105 : Builder.Extra Tryz.prog Tryz.lays105_ren := {
 sizeBuilder := by kernel_rfl
 liesBuilder := by kernel_rfl
 t5 := Tryz.underlying5
 a5 := Tryz.isAgg5
 z5 := Tryz.sizeOf5
 v5 := Tryz.zeroValue5
 infoByte := by kernel_rfl
 cellsByte := by kernel_rfl
 sizeByte := by kernel_rfl
 neB5 := by decide }
open Go.RowKit Go.Lib in
theorem Tryz.strings_Repeat (s : ByteArray) (c : Nat) (w : World) (hc : c ≤ 9223372036854775807) (hlen : s.size * c ≤ 140737488355328) :
  Calls Tryz.prog 120 #[.string s,.int .i64 c] w fun e w' => e = .returned (.string ⟨(Lib.repeatL s.data.toList c).toArray⟩) ∧ Below w.heap.size w w' := Any.strings_Repeat Tryz.lays105 Tryz.Builder_Extra_105 s c w hc hlen
def Tryz.laysNm217_ren : Go.Shelf.Ren := ⟨fun | 17 => 223 | n => n,fun | 24 => 38 | 9 => 9 | 3 => 3 | 4 => 4 | 0 => 0 | n => n,fun | n => n⟩
def Tryz.laysNm223_ren : Go.Shelf.Ren := ⟨fun | 23 => 152 | n => n,fun | 22 => 35 | 3 => 3 | 4 => 4 | 0 => 0 | n => n,fun | n => n⟩
theorem Tryz.laysNm223 : Go.Proofs.Lays2.n23 Tryz.prog Tryz.laysNm223_ren := {
 mixed := by kernel_rfl
 f23 := Tryz.func152.trans (congrArg some (by kernel_rfl))
 t0 := Tryz.underlying0
 a0 := Tryz.isAgg0
 z0 := Tryz.sizeOf0
 v0 := Tryz.zeroValue0
 t3 := Tryz.underlying3
 a3 := Tryz.isAgg3
 z3 := Tryz.sizeOf3
 v3 := Tryz.zeroValue3
 t4 := Tryz.underlying4
 a4 := Tryz.isAgg4
 z4 := Tryz.sizeOf4
 v4 := Tryz.zeroValue4
 t22 := Tryz.underlying35
 a22 := Tryz.isAgg35
 z22 := Tryz.sizeOf35
 v22 := Tryz.zeroValue35
 i3 := by kernel_rfl }
def Tryz.laysNm224_ren : Go.Shelf.Ren := ⟨fun | 24 => 151 | n => n,fun | 24 => 38 | 9 => 9 | 3 => 3 | 4 => 4 | 0 => 0 | n => n,fun | n => n⟩
theorem Tryz.laysNm224 : Go.Proofs.Lays2.n24 Tryz.prog Tryz.laysNm224_ren := {
 mixed := by kernel_rfl
 f24 := Tryz.func151.trans (congrArg some (by kernel_rfl))
 t0 := Tryz.underlying0
 a0 := Tryz.isAgg0
 z0 := Tryz.sizeOf0
 v0 := Tryz.zeroValue0
 t3 := Tryz.underlying3
 a3 := Tryz.isAgg3
 z3 := Tryz.sizeOf3
 v3 := Tryz.zeroValue3
 t4 := Tryz.underlying4
 a4 := Tryz.isAgg4
 z4 := Tryz.sizeOf4
 v4 := Tryz.zeroValue4
 t9 := Tryz.underlying9
 a9 := Tryz.isAgg9
 z9 := Tryz.sizeOf9
 v9 := Tryz.zeroValue9
 t24 := Tryz.underlying38
 a24 := Tryz.isAgg38
 z24 := Tryz.sizeOf38
 v24 := Tryz.zeroValue38
 i9 := by kernel_rfl }
open Go.RowKit Go.Lib Go.Sort in
theorem Tryz.slices_Delete_int_cells (b off n c i j : Nat) (zs : List Int) (w : World) (hz : n ≤ zs.length) (hcap : n ≤ c) (hm : c ≤ 9223372036854775807) (hij : i ≤ j) (hj : j ≤ n) (hc : ∀ j,j < zs.length → w.cell? ⟨b,off + j,none⟩ = some (.int .i64 (zs.getD j 0))) (hf : ∀ j,j < n → w.frozen? ⟨b,off + j,none⟩ = false) :
  Calls Tryz.prog 152 #[.slice (some ⟨b,off,none⟩) n c,.int .i64 i,.int .i64 j] w fun e w' => e = .returned (.slice (some ⟨b,off,none⟩) (n - (j - i)) c) ∧ ∃ q,w' = (w.drewN q).setCells b off (((zs.take n).take i ++ (zs.take n).drop j ++ List.replicate (j - i) 0).map (Value.int .i64)) := Any.slices_Delete_int_cells Tryz.laysNm223 b off n c i j zs w hz hcap hm hij hj hc hf
open Go.RowKit Go.Lib Go.Sort in
theorem Tryz.slices_Delete_string_cells (b off n c i j : Nat) (Sx : Nat → ByteArray) (w : World) (hcap : n ≤ c) (hm : c ≤ 9223372036854775807) (hij : i ≤ j) (hj : j ≤ n) (hc : ∀ i,i < n → w.cell? ⟨b,off + i,none⟩ = some (.string (Sx i))) (hf : ∀ j,j < n → w.frozen? ⟨b,off + j,none⟩ = false) :
  Calls Tryz.prog 151 #[.slice (some ⟨b,off,none⟩) n c,.int .i64 i,.int .i64 j] w fun e w' => e = .returned (.slice (some ⟨b,off,none⟩) (n - (j - i)) c) ∧ ∃ q,w' = (w.drewN q).setCells b off (((Lib.strsOf Sx n).take i ++ (Lib.strsOf Sx n).drop j ++ List.replicate (j - i) []).map encStr) := Any.slices_Delete_string_cells Tryz.laysNm224 b off n c i j Sx w hcap hm hij hj hc hf
def Tryz.laysSlE041_f124_ren : Go.Shelf.Ren := ⟨fun | 41 => 124 | n => n,fun | 22 => 38 | 23 => 9 | 4 => 4 | n => n,fun | n => n⟩
theorem Tryz.laysSlE041_f124 : Go.Proofs.SlLaysE0.n41 Tryz.prog Tryz.laysSlE041_f124_ren := {
 mixed := by kernel_rfl
 f41 := ⟨Tryz.f124.name,by decide,Tryz.func124.trans (congrArg some (by kernel_rfl))⟩
 t4 := Tryz.underlying4
 a4 := Tryz.isAgg4
 z4 := Tryz.sizeOf4
 v4 := Tryz.zeroValue4
 t22 := Tryz.underlying38
 a22 := Tryz.isAgg38
 z22 := Tryz.sizeOf38
 v22 := Tryz.zeroValue38 }
open Go.RowKit Go.Lib in
theorem Tryz.slices_Clone_nil_f124 (n c : Nat) (w : World) :
  Calls Tryz.prog 124 #[.slice none n c] w fun e w' => e = .returned (.slice none 0 0) ∧ w' = w := AnyE.slices_Clone_nil Tryz.laysSlE041_f124 n c w
end Go.Proofs
namespace Go.Proofs.YtccnemmlkcmceaaGreatDoor
open Go.RowKit
structure Rst where
 s : Bs
 bad : Bool
def Rst.take (r : Rst) (n : Nat) : Bs × Rst := if r.s.length < n then (List.replicate n 0,⟨[],true⟩) else (r.s.take n,⟨r.s.drop n,r.bad⟩)
def RestAt (w : World) (p : Nat) (r : Rst) : Prop := Blk w p 155 #[.string (str r.s),.bool r.bad]
def On (p : Nat) : Nat → Prop := fun b => b = p
theorem Rst.take_len (r : Rst) (n : Nat) : (r.take n).1.length = n := by
 unfold Rst.take; split
 ·simp
 ·rw [List.length_take]; omega
theorem Rst.take_le (r : Rst) (n : Nat) : (r.take n).2.s.length ≤ r.s.length := by
 unfold Rst.take; split
 ·simp
 ·simp
theorem bytes_eq (a b : ByteArray) (h : a.data.toList = b.data.toList) : a = b := by
 cases a; cases b; simp at h; congr
theorem str_take (s : Bs) (n : Nat) : (str s).extract 0 n = str (s.take n) := by
 refine bytes_eq _ _ ?_
 simp [str]
theorem str_drop (s : Bs) (n : Nat) : (str s).extract n s.length = str (s.drop n) := by
 refine bytes_eq _ _ ?_
 simp [str]
 exact List.take_of_length_le (by simp)
theorem repeat0 (n : Nat) : (⟨(Lib.repeatL [0] n).toArray⟩ : ByteArray) = str (List.replicate n 0) := by
 refine bytes_eq _ _ ?_
 simp
 induction n with
 | zero => rfl
 | succ n ih => rw [Lib.repeatL,ih]; rfl
theorem RestAt.lt {w : World} {p : Nat} {r : Rst} (h : RestAt w p r) : p < w.heap.size := Blk.lt h
theorem take_any (r : Rst) (n : Nat) (hn : n < 1000000) (hs : r.s.length < 1000000) (p : Nat) (w : World) (h : RestAt w p r) :
  Calls Tryz.prog 129 #[.pointer (some ⟨p,0,none⟩),.int .i64 (n : Int)] w fun e w' => e = .returned (.string (str (r.take n).1)) ∧ RestAt w' p (r.take n).2 ∧ Ext (On p) w w' := by
 have c0 := h.cell 0
 have c1 := h.cell 1
 have f0 := h.frozen 0
 have f1 := h.frozen 1
 have bl := h.lt
 simp at c0 c1
 have hsz := str_size r.s
 by_cases hlt : r.s.length < n
 ·have e : r.take n = (List.replicate n 0,⟨[],true⟩) := by unfold Rst.take; rw [if_pos hlt]
  rw [e]
  clear e
  have HR := Lib.hid (fun w => Tryz.strings_Repeat ⟨#[0]⟩ n w (by omega) (by show 1 * n ≤ _; omega))
  have hlt' : (r.s.length : Int) < n := by omega
  go_enter Tryz.func129,Tryz.ntmps129
  go_wp2_with fail
  refine (HR.out _).mono ?_
  rintro e w1 ⟨rfl,hb⟩
  go_wp2_with fail
  go_ret
  have h2 : RestAt ((w.setCell ⟨p,1,none⟩ (.bool true)).setCell ⟨p,0,none⟩ (.string (str []))) p ⟨[],true⟩ := (Blk.set_ (Blk.set_ h 1 (.bool true)) 0 (.string (str [])))
  refine ⟨by simp only; rw [← repeat0]; rfl,Blk.ext h2 (Ext.of_below hb No) (fun h => h),?_⟩
  have h3 : Ext (On p) w ((w.setCell ⟨p,1,none⟩ (.bool true)).setCell ⟨p,0,none⟩ (.string (str []))) := Ext.setF (Ext.setF (Ext.refl (On p) w) (show On p p from rfl) _ _) (show On p p from rfl) _ _
  exact h3.trans_ (Ext.of_no (Ext.of_below hb No))
 ·have e : r.take n = (r.s.take n,⟨r.s.drop n,r.bad⟩) := by unfold Rst.take; rw [if_neg hlt]
  rw [e]
  clear e
  have hlt' : ¬ (r.s.length : Int) < n := by omega
  go_enter Tryz.func129,Tryz.ntmps129
  go_wp2_with fail
  rw [str_take,str_drop]
  go_ret
  exact ⟨rfl,Blk.set_ h 0 _,Ext.setF (Ext.refl (On p) w) (show On p p from rfl) _ _⟩
def Rst.byte (r : Rst) : Nat × Rst := (((r.take 1).1.headD 0).toNat,(r.take 1).2)
def Rst.four (r : Rst) : Nat × Rst := (v4 (str (r.take 4).1),(r.take 4).2)
def Rst.text (r : Rst) : Bs × Rst := r.byte.2.take r.byte.1
def Rst.cell (r : Rst) : Cell × Rst :=
 if r.text.2.byte.1 = 0 then (⟨r.text.1,r.text.2.byte.2.text.1,0,0⟩,r.text.2.byte.2.text.2)
 else if r.text.2.byte.1 = 1 then (⟨r.text.1,[],r.text.2.byte.2.four.2.four.1,r.text.2.byte.2.four.1⟩,⟨r.text.2.byte.2.four.2.four.2.s,r.text.2.byte.2.four.2.four.2.bad || decide (r.text.2.byte.2.four.2.four.1 = 0)⟩)
 else (⟨r.text.1,[],0,0⟩,⟨r.text.2.byte.2.s,true⟩)
theorem Rst.byte_lt (r : Rst) : r.byte.1 < 256 := UInt8.toNat_lt _
theorem Rst.byte_le (r : Rst) : r.byte.2.s.length ≤ r.s.length := r.take_le 1
theorem Rst.four_lt (r : Rst) : r.four.1 < 4294967296 := v4_lt _
theorem Rst.four_le (r : Rst) : r.four.2.s.length ≤ r.s.length := r.take_le 4
theorem Rst.text_len (r : Rst) : r.text.1.length < 256 := by unfold Rst.text; rw [Rst.take_len]; exact r.byte_lt
theorem Rst.text_le (r : Rst) : r.text.2.s.length ≤ r.s.length := Nat.le_trans (Rst.take_le _ _) r.byte_le
theorem Rst.cell_le (r : Rst) : r.cell.2.s.length ≤ r.s.length := by
 have h1 := r.text_le
 have h2 := r.text.2.byte_le
 unfold Rst.cell
 split
 ·have := r.text.2.byte.2.text_le
  simp only; omega
 ·split
  ·have := r.text.2.byte.2.four_le
   have := r.text.2.byte.2.four.2.four_le
   simp only; omega
  ·simp only; omega
theorem byte_any (r : Rst) (hs : r.s.length < 1000000) (p : Nat) (w : World) (h : RestAt w p r) :
  Calls Tryz.prog 87 #[.pointer (some ⟨p,0,none⟩)] w fun e w' => e = .returned (.int .i64 (r.byte.1 : Int)) ∧ RestAt w' p r.byte.2 ∧ Ext (On p) w w' := by
 have HT := Lib.hid (fun w h => take_any r 1 (by omega) hs p w h)
 have hl := r.take_len 1
 have HB := Lib.hid r.byte_lt
 obtain ⟨s,hsx⟩ : ∃ s,str (r.take 1).1 = s := ⟨_,rfl⟩
 have hsl : s.size = 1 := by rw [← hsx]; simp [hl]
 have hbt : bt s 0 = r.byte.1 := by
  rw [← hsx]
  match h : (r.take 1).1,hl with
  | [b],_ => simp [bt,Rst.byte,h]
 have i0 : ∀ w,(Instr.index 9 (.string s) (.int .i64 0)).run Tryz.prog w = .ok (.int .u8 (bt s 0 : Int)) w := fun w => idx9 s 0 (by omega) w
 rw [hsx] at HT
 rw [hbt] at i0
 have HH := Lib.hid (show r.byte.2 = (r.take 1).2 from rfl)
 clear hl hsx hbt hsl
 have hlt := HB.out
 go_enter Tryz.func87,Tryz.ntmps87
 go_wp2_with fail
 refine (HT.out _ h).mono ?_
 rintro e w1 ⟨rfl,hr,hx⟩
 go_wp2_with fail
 go_ret
 exact ⟨rfl,by rw [HH.out]; exact hr,hx⟩
theorem four_take (r : Rst) (hs : r.s.length < 1000000) (p : Nat) (w : World) (h : RestAt w p r) :
  Calls Tryz.prog 88 #[.pointer (some ⟨p,0,none⟩)] w fun e w' => e = .returned (.int .i64 (r.four.1 : Int)) ∧ RestAt w' p r.four.2 ∧ Ext (On p) w w' := by
 have HT := Lib.hid (fun w h => take_any r 4 (by omega) hs p w h)
 have hl := r.take_len 4
 obtain ⟨s,hsx⟩ : ∃ s,str (r.take 4).1 = s := ⟨_,rfl⟩
 have hsl : s.size = 4 := by rw [← hsx]; simp [hl]
 have HV := Lib.hid (show r.four.1 = v4 s by rw [← hsx]; rfl)
 have HV2 := Lib.hid (show r.four.2 = (r.take 4).2 from rfl)
 rw [hsx] at HT
 clear hl hsx
 have i0 : ∀ w,(Instr.index 9 (.string s) (.int .i64 0)).run Tryz.prog w = .ok (.int .u8 (bt s 0 : Int)) w := fun w => idx9 s 0 (by omega) w
 have i1 : ∀ w,(Instr.index 9 (.string s) (.int .i64 1)).run Tryz.prog w = .ok (.int .u8 (bt s 1 : Int)) w := fun w => idx9 s 1 (by omega) w
 have i2 : ∀ w,(Instr.index 9 (.string s) (.int .i64 2)).run Tryz.prog w = .ok (.int .u8 (bt s 2 : Int)) w := fun w => idx9 s 2 (by omega) w
 have i3 : ∀ w,(Instr.index 9 (.string s) (.int .i64 3)).run Tryz.prog w = .ok (.int .u8 (bt s 3 : Int)) w := fun w => idx9 s 3 (by omega) w
 have hor := Lib.hid (or4 (bt s 0) (bt s 1) (bt s 2) (bt s 3) (bt_lt s 0) (bt_lt s 1) (bt_lt s 2) (bt_lt s 3))
 clear hsl
 go_enter Tryz.func88,Tryz.ntmps88
 go_wp2_with fail
 refine (HT.out _ h).mono ?_
 rintro e w1 ⟨rfl,hr,hx⟩
 go_wp2_with fail
 go_quiet (fail)
 go_wp2_with fail
 go_ret
 refine ⟨ret_int ?_,Blk.drewN (by rw [HV2.out]; exact hr) _,hx.drewN _⟩
 rw [HV.out]
 simp only [← wrapEq]; exact hor.out
theorem text_take (r : Rst) (hs : r.s.length < 1000000) (p : Nat) (w : World) (h : RestAt w p r) :
  Calls Tryz.prog 90 #[.pointer (some ⟨p,0,none⟩)] w fun e w' => e = .returned (.string (str r.text.1)) ∧ RestAt w' p r.text.2 ∧ Ext (On p) w w' := by
 have h1 := r.byte_lt
 have h2 := r.byte_le
 have HB := Lib.hid (fun w h => byte_any r hs p w h)
 have HT := Lib.hid (fun w h => take_any r.byte.2 r.byte.1 (by omega) (by omega) p w h)
 clear h1 h2 
 go_enter Tryz.func90,Tryz.ntmps90
 go_wp2_with fail
 refine (HB.out _ h).mono ?_
 rintro e w1 ⟨rfl,hr,hx⟩
 go_wp2_with fail
 refine (HT.out _ hr).mono ?_
 rintro e w2 ⟨rfl,hr2,hx2⟩
 go_wp2_with fail
 go_ret
 exact ⟨rfl,hr2,hx.trans_ hx2⟩
theorem Blk.p4 {w : World} {g : Nat} {t : TypeId} {a b c d : Value} (h : Blk w g t #[a,b,c,d]) :
  w.cell? ⟨g,0,none⟩ = some a ∧ w.cell? ⟨g,1,none⟩ = some b ∧ w.cell? ⟨g,2,none⟩ = some c ∧ w.cell? ⟨g,3,none⟩ = some d ∧
  w.frozen? ⟨g,0,none⟩ = false ∧ w.frozen? ⟨g,1,none⟩ = false ∧ w.frozen? ⟨g,2,none⟩ = false ∧ w.frozen? ⟨g,3,none⟩ = false ∧ g < w.heap.size :=
 ⟨h.cell 0,h.cell 1,h.cell 2,h.cell 3,h.frozen 0,h.frozen 1,h.frozen 2,h.frozen 3,h.lt⟩
theorem Blk.put4 {w : World} {g : Nat} {t : TypeId} {a b c d : Value} (h : Blk w g t #[a,b,c,d]) (a' b' c' d' : Value) :
  Blk ((((w.setCell ⟨g,0,none⟩ a').setCell ⟨g,1,none⟩ b').setCell ⟨g,2,none⟩ c').setCell ⟨g,3,none⟩ d') g t #[a',b',c',d'] := (((h.set_ 0 a').set_ 1 b').set_ 2 c').set_ 3 d'
theorem Blk.far4 {w : World} {g g' : Nat} {t : TypeId} {cs : Array Value} (h : Blk w g t cs) (hne : g ≠ g') (a' b' c' d' : Value) :
  Blk ((((w.setCell ⟨g',0,none⟩ a').setCell ⟨g',1,none⟩ b').setCell ⟨g',2,none⟩ c').setCell ⟨g',3,none⟩ d') g t cs := (((h.far hne a').far hne b').far hne c').far hne d'
theorem not_on {p b : Nat} (h : p < b) : ¬ On p b := fun e => by unfold On at e; omega
theorem cell_take (r : Rst) (hs : r.s.length < 1000000) (p : Nat) (w : World) (h : RestAt w p r) :
  Calls Tryz.prog 89 #[.pointer (some ⟨p,0,none⟩)] w fun e w' => e = .returned r.cell.1.agg ∧ RestAt w' p r.cell.2 ∧ Ext (On p) w w' := by
 have lp := h.lt
 have h1 := r.text_le
 have h2 := r.text.2.byte_le
 have h3 := r.text.2.byte.2.four_le
 have HT := Lib.hid (fun w h => text_take r hs p w h)
 have HB := Lib.hid (fun w h => byte_any r.text.2 (by omega) p w h)
 have HT2 := Lib.hid (fun w h => text_take r.text.2.byte.2 (by omega) p w h)
 have HF := Lib.hid (fun w h => four_take r.text.2.byte.2 (by omega) p w h)
 have HF2 := Lib.hid (fun w h => four_take r.text.2.byte.2.four.2 (by omega) p w h)
 have HX : Hid (r.cell = if r.text.2.byte.1 = 0 then (⟨r.text.1,r.text.2.byte.2.text.1,0,0⟩,r.text.2.byte.2.text.2)
  else if r.text.2.byte.1 = 1 then (⟨r.text.1,[],r.text.2.byte.2.four.2.four.1,r.text.2.byte.2.four.1⟩,⟨r.text.2.byte.2.four.2.four.2.s,r.text.2.byte.2.four.2.four.2.bad || decide (r.text.2.byte.2.four.2.four.1 = 0)⟩)
  else (⟨r.text.1,[],0,0⟩,⟨r.text.2.byte.2.s,true⟩)) := Lib.hid rfl
 clear h1 h2 h3
 obtain ⟨tag,htag⟩ : ∃ tag,r.text.2.byte.1 = tag := ⟨_,rfl⟩
 rw [htag] at HX HB
 clear htag
 generalize r.text.2.byte.2 = r2 at HX HB HT2 HF HF2
 generalize r.text.2 = r1 at HX HB HT
 generalize r.text.1 = k0 at HX HT
 generalize hcell : r.cell = cl at HX
 clear hcell
 go_enter Tryz.func89,Tryz.ntmps89
 go_wp2_with fail
 refine (HT.out _ (h.alloc _)).mono ?_
 rintro e w1 ⟨rfl,hr1,hx1⟩
 have b2 : Blk w1 w.heap.size 45 #[.string (str []),.string (str []),.int .i64 0,.int .i64 0] := (Blk.new w 45 #[.string (str []),.string (str []),.int .i64 0,.int .i64 0]).ext hx1 (not_on lp)
 have l2 := b2.lt
 go_wp2_with fail
 refine (HB.out _ (hr1.alloc _)).mono ?_
 rintro e w2 ⟨rfl,hr2,hx2⟩
 have b3 : Blk w2 w1.heap.size 45 #[.string (str k0),.string (str []),.int .i64 0,.int .i64 0] := (Blk.new w1 45 #[.string (str k0),.string (str []),.int .i64 0,.int .i64 0]).ext hx2 (not_on (by omega))
 have b2 : Blk w2 w.heap.size 45 #[.string (str []),.string (str []),.int .i64 0,.int .i64 0] := (b2.alloc _).ext hx2 (not_on lp)
 have l2 := b2.lt
 have l3 := b3.lt
 have hE2 : Ext (On p) w w2 := ((((Ext.refl (On p) w).alloc _).trans_ hx1).alloc _).trans_ hx2
 by_cases ht0 : tag = 0
 ·subst ht0
  rw [if_pos rfl] at HX
  have f0 := b3.frozen 1
  go_wp2_with fail
  refine (HT2.out _ hr2).mono ?_
  rintro e w3 ⟨rfl,hr3,hx3⟩
  have b3 := b3.ext hx3 (not_on (by omega))
  have b2 := b2.ext hx3 (not_on lp)
  obtain ⟨q0,q1,q2,q3,f0,f1,f2,f3,l3⟩ := b3.p4
  obtain ⟨p0,p1,p2,p3,g0,g1,g2,g3,l2⟩ := b2.p4
  go_wp2_with fail
  have HRES := (b2.far (p := ⟨w1.heap.size,1,none⟩) (by show w.heap.size ≠ w1.heap.size; omega) (.string (str r2.text.1))).put4 (.string (str k0)) (.string (str r2.text.1)) (.int .i64 0) (.int .i64 0)
  refine bodyPost_ret (results_cell_row (P := Tryz.prog) rfl _ _ w.heap.size 45 _ (0,0) _ rfl HRES Tryz.underlying45 rfl (by kernel_rfl)) rfl ?_
  rw [HX.out]
  refine ⟨rfl,?_,?_⟩
  ·exact (hr3.far (p := ⟨w1.heap.size,1,none⟩) (by show p ≠ w1.heap.size; omega) _).far4 (by omega) _ _ _ _
  ·(repeat' (first | exact Ext.refl _ _ | assumption | apply Ext.alloc | apply Ext.drewN | apply Ext.drew | refine Ext.setNew ?_ (by first | omega | (simp; omega) | simp) _ _ | refine Ext.setF ?_ (by first | exact Or.inl rfl | exact Or.inr rfl | rfl) _ _ | refine Ext.trans_ ?_ (by assumption) | refine Ext.trans_ ?_ (Ext.of_no (by assumption))))
 ·by_cases ht1 : tag = 1
  ·subst ht1
   rw [if_neg (by omega),if_pos rfl] at HX
   clear ht0
   go_wp2_with fail
   refine (HF.out _ hr2).mono ?_
   rintro e w3 ⟨rfl,hr3,hx3⟩
   have b3 := b3.ext hx3 (not_on (by omega))
   have b2 := b2.ext hx3 (not_on lp)
   obtain ⟨q0,q1,q2,q3,f0,f1,f2,f3,l3⟩ := b3.p4
   go_wp2_with fail
   refine (HF2.out _ (hr3.far (p := ⟨w1.heap.size,3,none⟩) (by show p ≠ w1.heap.size; omega) _)).mono ?_
   rintro e w4 ⟨rfl,hr4,hx4⟩
   have b3 := (b3.set_ 3 (.int .i64 (r2.four.1 : Int))).ext hx4 (not_on (by omega))
   have b2 := (b2.far (p := ⟨w1.heap.size,3,none⟩) (by show w.heap.size ≠ w1.heap.size; omega) _).ext hx4 (not_on lp)
   have b3 : Blk w4 w1.heap.size 45 #[.string (str k0),.string (str []),.int .i64 0,.int .i64 (r2.four.1 : Int)] := b3
   obtain ⟨q0,q1,q2,q3,f0,f1,f2,f3,l3⟩ := b3.p4
   obtain ⟨p0,p1,p2,p3,g0,g1,g2,g3,l2⟩ := b2.p4
   have c1 := hr4.cell 1
   have cf1 := hr4.frozen 1
   have l4 := hr4.lt
   simp at c1
   by_cases hbad : r2.four.2.four.2.bad = true
   ·have HBD := Lib.hid hbad
    rw [hbad] at c1
    clear hbad
    go_wp2_with fail
    have HRES := ((b2.far (p := ⟨w1.heap.size,2,none⟩) (by show w.heap.size ≠ w1.heap.size; omega) (.int .i64 (r2.four.2.four.1 : Int))).far (p := ⟨p,1,none⟩) (by show w.heap.size ≠ p; omega) (.bool true)).put4 (.string (str k0)) (.string (str [])) (.int .i64 (r2.four.2.four.1 : Int)) (.int .i64 (r2.four.1 : Int))
    refine bodyPost_ret (results_cell_row (P := Tryz.prog) rfl _ _ w.heap.size 45 _ (0,0) _ rfl HRES Tryz.underlying45 rfl (by kernel_rfl)) rfl ?_
    rw [HX.out]
    refine ⟨rfl,?_,?_⟩
    ·have hq := (((Blk.far hr4 (p := ⟨w1.heap.size,2,none⟩) (by show p ≠ w1.heap.size; omega) (.int .i64 (r2.four.2.four.1 : Int))).set_ 1 (.bool true))).far4 (g' := w.heap.size) (by omega) (.string (str k0)) (.string (str [])) (.int .i64 (r2.four.2.four.1 : Int)) (.int .i64 (r2.four.1 : Int))
     simp only [HBD.out]
     simp only [Bool.true_or]; exact hq
    ·exact ((((((((hE2.trans_ hx3).setNew (by omega) _ _).trans_ hx4).setNew (by omega) _ _).setF (show On p p from rfl) _ _).setNew (by omega) _ _).setNew (by omega) _ _).setNew (by omega) _ _).setNew (by omega) _ _
   ·have hbad : r2.four.2.four.2.bad = false := by simpa using hbad
    have HBD := Lib.hid hbad
    rw [hbad] at c1
    clear hbad
    go_wp2_with fail
    have HRES := ((b2.far (p := ⟨w1.heap.size,2,none⟩) (by show w.heap.size ≠ w1.heap.size; omega) (.int .i64 (r2.four.2.four.1 : Int))).far (p := ⟨p,1,none⟩) (by show w.heap.size ≠ p; omega) (.bool ((r2.four.2.four.1 : Int) == 0))).put4 (.string (str k0)) (.string (str [])) (.int .i64 (r2.four.2.four.1 : Int)) (.int .i64 (r2.four.1 : Int))
    refine bodyPost_ret (results_cell_row (P := Tryz.prog) rfl _ _ w.heap.size 45 _ (0,0) _ rfl HRES Tryz.underlying45 rfl (by kernel_rfl)) rfl ?_
    rw [HX.out]
    refine ⟨rfl,?_,?_⟩
    ·have hq := (((Blk.far hr4 (p := ⟨w1.heap.size,2,none⟩) (by show p ≠ w1.heap.size; omega) (.int .i64 (r2.four.2.four.1 : Int))).set_ 1 (.bool ((r2.four.2.four.1 : Int) == 0)))).far4 (g' := w.heap.size) (by omega) (.string (str k0)) (.string (str [])) (.int .i64 (r2.four.2.four.1 : Int)) (.int .i64 (r2.four.1 : Int))
     simp only [HBD.out]
     have e : decide (r2.four.2.four.1 = 0) = ((r2.four.2.four.1 : Int) == 0) := by
      rw [Bool.eq_iff_iff]; simp
     simp only [Bool.false_or]; rw [e]; exact hq
    ·exact ((((((((hE2.trans_ hx3).setNew (by omega) _ _).trans_ hx4).setNew (by omega) _ _).setF (show On p p from rfl) _ _).setNew (by omega) _ _).setNew (by omega) _ _).setNew (by omega) _ _).setNew (by omega) _ _
  ·have h0' : ((tag : Int) == 0) = false := by simp; omega
   have h1' : ((tag : Int) == 1) = false := by simp; omega
   rw [if_neg ht0,if_neg ht1] at HX
   clear ht0 ht1
   have cf1 := hr2.frozen 1
   have c1 := hr2.cell 1
   simp at c1
   have l4 := hr2.lt
   obtain ⟨q0,q1,q2,q3,f0,f1,f2,f3,l3⟩ := b3.p4
   obtain ⟨p0,p1,p2,p3,g0,g1,g2,g3,l2⟩ := b2.p4
   go_wp2_with fail
   have HRES := (b2.far (p := ⟨p,1,none⟩) (by show w.heap.size ≠ p; omega) (.bool true)).put4 (.string (str k0)) (.string (str [])) (.int .i64 0) (.int .i64 0)
   refine bodyPost_ret (results_cell_row (P := Tryz.prog) rfl _ _ w.heap.size 45 _ (0,0) _ rfl HRES Tryz.underlying45 rfl (by kernel_rfl)) rfl ?_
   rw [HX.out]
   refine ⟨rfl,?_,?_⟩
   ·exact (Blk.set_ hr2 1 _).far4 (by omega) _ _ _ _
   ·exact (((((hE2.setF (show On p p from rfl) _ _).setNew (by omega) _ _).setNew (by omega) _ _).setNew (by omega) _ _).setNew (by omega) _ _)
theorem cell_grown {w w' : World} {row : Option Nat} (h : w.grownBy w' row) {g i : Nat} {u : Value} (hc : w.cell? ⟨g,i,none⟩ = some u) (hg : some g ≠ row) : w'.cell? ⟨g,i,none⟩ = some u := h.cell hc hg
theorem wrap_u8_small (n : Nat) (h : n < 256) : IntKind.u8.wrap (n : Int) = n := by
 unfold IntKind.wrap; simp [IntKind.bits,IntKind.signed]; omega
theorem encKeys_take (ks : List Bs) : ∀ (is : List Nat) (k : Nat) (x : Bs) (i : Nat),ks[k]? = some x → is[k]? = some i →
  encKeys (ks.take (k + 1)) (is.take (k + 1)) = encKeys (ks.take k) (is.take k) ++ txt x ++ n4 i := by
 induction ks with
 | nil => intro is k x i h; simp at h
 | cons y ks ih =>
  intro is k x i hx hi
  match is,k with
  | [],_ => simp at hi
  | j :: is,0 =>
   simp at hx hi; subst hx; subst hi
   simp [encKeys]
  | j :: is,k + 1 =>
   simp only [List.getElem?_cons_succ] at hx hi
   simp only [List.take_succ_cons,encKeys]
   rw [ih is k x i hx hi]
   simp [List.append_assoc]
theorem encKeys_len (ks : List Bs) : ∀ (is : List Nat),(∀ k ∈ ks,k.length ≤ 140) → (encKeys ks is).length ≤ ks.length * 145 := by
 induction ks with
 | nil => intro is _; simp [encKeys]
 | cons y ks ih =>
  intro is h
  match is with
  | [] => simp [encKeys]
  | j :: is =>
   have h1 := h y (by simp)
   have h2 := ih is (fun k hk => h k (by simp [hk]))
   simp only [encKeys,List.length_append,txt,List.length_cons,n4_len]
   omega
theorem enc_branch (n : Nd) (w : World) (F : Nat → Prop) (A1 : Option Addr) (c1 : Nat) (A2 : Option Addr) (c2 : Nat) (A3 : Option Addr) (c3 : Nat) (hn : NodeAt w F A1 c1 A2 c2 A3 c3 n) (hno : n.ok = true) (hl : n.size ≤ 500) (hlf : n.leaf = false) :
  Calls Tryz.prog 180 #[n.value A1 c1 A2 c2 A3 c3] w fun e w' => e = .returned (.tuple #[.string (str n.enc),.int .i64 0]) ∧ Ext No w w' := by
 have hO := Nd.Ok.of hno
 have hf := hO.fits
 have HC := Lib.hid (fun w hn => check_any n w F A1 c1 A2 c2 A3 c3 hn hf)
 have HS := Lib.hid (fun w hn => size_any n w F A1 c1 A2 c2 A3 c3 hn hf)
 rw [Nd.chk_ok hno] at HC
 clear hno
 have hl' : ¬ ((500 : Int) < n.size) := by omega
 obtain ⟨hbr,hkl⟩ := hO.br hlf
 obtain ⟨i0,hi0⟩ : ∃ i0,n.kids[0]? = some i0 := ⟨_,List.getElem?_eq_getElem (by omega)⟩
 have hi0b : i0 < 4294967296 := hf.i i0 (List.mem_of_getElem? hi0)
 obtain ⟨kb,ko,hA3,_,e0⟩ := hn.kids.kidAt hi0
 subst hA3
 simp only [Nat.add_zero] at e0
 have lkb := World.block_lt_of_cell? w _ e0
 have hkpos : 0 < n.kids.length := by omega
 have hkp' : (0 : Int) < n.kids.length := by omega
 have HBR := Lib.hid hbr; have HKL := Lib.hid hkl; have HI0 := Lib.hid hi0; have HLF := Lib.hid hlf
 clear hbr hkl hi0
 go_enter Tryz.func180,Tryz.ntmps180
 simp only [Nd.value,hlf]
 simp only [Nd.value,hlf] at HC HS
 clear hlf
 go_wp2_with fail
 refine (HC.out _ (hn.ext ((Ext.refl _ w).alloc _))).mono ?_
 rintro e w1 ⟨rfl,hb1⟩
 have bb := (Blk.new w 40 #[.bool false,.slice A1 n.cells.length c1,.slice A2 n.keys.length c2,.slice (some ⟨kb,ko,none⟩) n.kids.length c3]).ext hb1 (fun h => h)
 have q0 := bb.cell 0
 have q1 := bb.cell 1
 have q2 := bb.cell 2
 have q3 := bb.cell 3
 have bl := bb.lt
 simp at q0 q1 q2 q3
 go_wp2_with fail
 refine (HS.out _ (hn.ext (((Ext.refl _ w).alloc _).trans_ hb1.of_no))).mono ?_
 rintro e w2 ⟨rfl,hb2⟩
 have hE2 : Ext No w w2 := by (repeat' (first | exact Ext.refl _ _ | assumption | apply Ext.alloc | apply Ext.drewN | apply Ext.drew | refine Ext.setNew ?_ (by first | omega | (simp; omega) | simp) _ _ | refine Ext.setF ?_ (by first | exact Or.inl rfl | exact Or.inr rfl | rfl) _ _ | refine Ext.trans_ ?_ (by assumption) | refine Ext.trans_ ?_ (Ext.of_no (by assumption))))
 have bb := bb.ext hb2 (fun h => h)
 have q0 := bb.cell 0
 have q2 := bb.cell 2
 have q3 := bb.cell 3
 have bl := bb.lt
 simp at q0 q2 q3
 have e0' := cell_ext hE2 e0 (fun h => h)
 have hwl : w.heap.size < w2.heap.size := by omega
 have HE2 := Lib.hid hE2
 go_wp2_with fail
 have hk255 : (n.keys.length : Int) % 256 = n.keys.length := by have := hO.a2; omega
 have hwr := wrap_u8_small n.keys.length (by have := hO.a2; omega)
 have HB2 : Hid (bcs [2,UInt8.ofNat n.keys.length] = [.int .u8 2,.int .u8 (n.keys.length : Int)]) := by
  have := ofNat_lt n.keys.length (by have := hO.a2; omega)
  show bcs _ = _
  simp only [bcs,List.map_cons,List.map_nil,this]; rfl
 go_region_held3 (fun w' => w'.cell? ⟨w.heap.size,2,none⟩ = some (.slice A2 n.keys.length c2) ∧ w'.cell? ⟨w.heap.size,3,none⟩ = some (.slice (some ⟨kb,ko,none⟩) n.kids.length c3) ∧ w'.cell? ⟨kb,ko,none⟩ = some (.int .i64 (i0 : Int))) (go_keep)
  ((go_at_call 202; refine (four_any (w.heap.size + 1) _ [2,UInt8.ofNat n.keys.length] i0 hi0b _ (by have h := World.ownsRow_lit (base := w.heap.size + 1) (e := 5) (size := 1) w2 #[.int .u8 2,.int .u8 (n.keys.length : Int)] 2 (by omega) (by decide) rfl; rw [HB2.out]; exact h) (by simp; omega) (by simp)).mono ?_; rintro e w3 ⟨g,cap,rfl,hown3,hgrow3,hat3⟩; generalize hL : ([2,UInt8.ofNat n.keys.length] ++ n4 i0 : Bs) = L0 at hown3 ⊢; have HL0 := Lib.hid hL; clear hL; have k2 := cell_grown hgrow3 (g := w.heap.size) (i := 2) (u := .slice A2 n.keys.length c2) (by go_simp) (by simp [Value.ownBlock]; omega); have k3 := cell_grown hgrow3 (g := w.heap.size) (i := 3) (u := .slice (some ⟨kb,ko,none⟩) n.kids.length c3) (by go_simp) (by simp [Value.ownBlock]; omega); have k4 := cell_grown hgrow3 (g := kb) (i := ko) (u := .int .i64 (i0 : Int)) (by go_simp) (by simp [Value.ownBlock]; omega)))
 have bb3 : Blk w3 w.heap.size 40 #[.bool false,.slice A1 n.cells.length c1,.slice A2 n.keys.length c2,.slice (some ⟨kb,ko,none⟩) n.kids.length c3] :=
  (hgrow3.block w.heap.size (by simp; omega) (by simp [Value.ownBlock]; omega)).trans ((bb.alloc _))
 have hE3 : Ext No w w3 := Ext.grown ((HE2.out.alloc _).drew) hgrow3 (fun g' hg' => by simp [Value.ownBlock] at hg'; exact .inr (by omega))
 have HK := Lib.hid (hn.keys)
 have HI := Lib.hid (hn.kids)
 clear hn hgrow3 hat3 HC HS hb1 hb2 hE2 bb q0 q2 q3 e0' HE2 hl'
 have hkeyb := hO.k
 have hfi := hf.i
 have ha2 := hO.a2
 obtain ⟨wo,rfl⟩ : ∃ wo : World,wo = w3 := ⟨_,rfl⟩
 have hL0len : L0.length = 6 := by rw [← HL0.out]; simp [n4]
 have HLL := Lib.hid hL0len
 clear hL0len
 go_wp2_with fail
 go_loopg [4,34] n.keys.length (fun gk v i wr => ∃ (k : Nat) (g cap : Nat) (L : Bs),k + gk = n.keys.length ∧ i = .int .i64 (k : Int) ∧ v = .slice (some ⟨g,0,none⟩) L.length cap ∧ wr.ownsRow (w.heap.size + 1) 5 1 (.slice (some ⟨g,0,none⟩) L.length cap) L.length (bcs L) ∧ L = L0 ++ encKeys (n.keys.take k) (n.kids.tail.take k) ∧ Ext No w wr ∧ Blk wr w.heap.size 40 #[.bool false,.slice A1 n.cells.length c1,.slice A2 n.keys.length c2,.slice (some ⟨kb,ko,none⟩) n.kids.length c3])
 case atStart => exact ⟨0,g,cap,L0,by omega,rfl,rfl,hown3,by simp [encKeys],hE3,bb3⟩
 case round =>
  clear hown3 hE3 bb3 k2 k3 k4
  obtain ⟨k,g,cap,L,hk0,rfl,rfl,hown,hL,hE,bb⟩ := hrel
  have hk : k ≤ n.keys.length := by omega
  have HK0 := Lib.hid hk0; have HL := Lib.hid hL; have HO := Lib.hid hown
  have hLb : L.length ≤ 6 + k * 145 := by
   have h1 := encKeys_len (n.keys.take k) (n.kids.tail.take k) (fun x hx => (keyOk_len (hkeyb x (List.mem_of_mem_take hx))).2)
   have h2 : (n.keys.take k).length ≤ k := List.length_take_le _ _
   have h3 := HLL.out
   have h4 := Nat.mul_le_mul_right 145 h2
   rw [hL,List.length_append]; omega
  clear hk0 hL hown
  have HE := Lib.hid hE
  have q2 := bb.cell 2
  have q3 := bb.cell 3
  have bl := bb.lt
  simp at q2 q3
  by_cases hlt : k < n.keys.length
  ·obtain ⟨x,hx⟩ : ∃ x,n.keys[k]? = some x := ⟨_,List.getElem?_eq_getElem hlt⟩
   obtain ⟨i,hi⟩ : ∃ i,n.kids[k + 1]? = some i := ⟨_,List.getElem?_eq_getElem (by have := HKL.out; omega)⟩
   have hxl := keyOk_len (hkeyb x (List.mem_of_getElem? hx))
   have hib := hfi i (List.mem_of_getElem? hi)
   obtain ⟨b,o,hA,_,e1⟩ := (HK.out.ext hE.of_no).keyAt hx
   subst hA
   obtain ⟨b',o',hA',_,e2⟩ := (HI.out.ext hE.of_no).kidAt hi
   injection hA' with hA'; injection hA' with hA1 hA2
   subst hA1; subst hA2
   have hbw : b < w.heap.size := by
    obtain ⟨bw,ow,hAw,_,ew⟩ := HK.out.keyAt hx
    injection hAw with hAw; injection hAw with hA1 hA2
    rw [hA1]; exact World.block_lt_of_cell? w _ ew
   have hgl := HO.out.lt g rfl
   obtain ⟨hg1,hg2⟩ := hgl
   have lkw : kb < wr.heap.size := by omega
   have hbw' : b < wr.heap.size := World.block_lt_of_cell? wr _ e1
   have w1 : IntKind.i64.wrap ((k : Int) + 1) = (k : Int) + 1 := IntWalk.i64_in _ (by omega)
   have w2 : (0 : Int) ≤ (k : Int) + 1 := by omega
   have w3 : ((k : Int) + 1).toNat = k + 1 := by omega
   have w4 : (k : Int) + 1 < n.kids.length := by have := HKL.out; omega
   have HX := Lib.hid hx; have HII := Lib.hid hi
   clear hx hi
   go_wp2_with fail
   go_region_held3 (fun w' => w'.cell? ⟨w.heap.size,3,none⟩ = some (.slice (some ⟨kb,ko,none⟩) n.kids.length c3) ∧ w'.cell? ⟨kb,ko + (k + 1),none⟩ = some (.int .i64 (i : Int))) (go_keep)
    (first
     | (go_at_call 203; refine (text_any (w.heap.size + 1) _ L x (by omega) _ (by exact HO.out) (by simp; omega) (by omega)).mono ?_; rintro e w5 ⟨g1,cap1,rfl,hown1,hgrow1,hat1⟩; generalize hL1 : (L ++ UInt8.ofNat x.length :: x : Bs) = L1 at hown1 ⊢; have HL1 := Lib.hid hL1; have HO1 := Lib.hid hown1; clear hL1 hown1; have k3 := cell_grown hgrow1 (g := w.heap.size) (i := 3) (u := .slice (some ⟨kb,ko,none⟩) n.kids.length c3) (by go_simp) (by simp [Value.ownBlock]; omega); have k4 := cell_grown hgrow1 (g := kb) (i := ko + (k + 1)) (u := .int .i64 (i : Int)) (by go_simp) (by simp [Value.ownBlock]; omega))
     | (go_at_call 202; refine (four_any (w.heap.size + 1) _ L1 i hib _ (by exact HO1.out) (by have := hgrow1.size; simp at this; omega) (by rw [← HL1.out]; simp; omega)).mono ?_; rintro e w6 ⟨g2,cap2,rfl,hown2,hgrow2,hat2⟩; generalize hL2 : (L1 ++ n4 i : Bs) = L2 at hown2 ⊢; have HL2 := Lib.hid hL2; have HO2 := Lib.hid hown2; clear hL2 hown2; have hg1' := (HO1.out.lt g1 rfl).1; have k3 := cell_grown hgrow2 (g := w.heap.size) (i := 3) (u := .slice (some ⟨kb,ko,none⟩) n.kids.length c3) (by go_simp) (by simp [Value.ownBlock]; omega); have k4 := cell_grown hgrow2 (g := kb) (i := ko + (k + 1)) (u := .int .i64 (i : Int)) (by go_simp) (by simp [Value.ownBlock]; omega)))
   go_wp2_with fail
   go_roundg (gk - 1)
   case rel =>
    refine ⟨k + 1,g2,cap2,L2,by have := HK0.out; omega,by go_num,rfl,HO2.out,?_,?_,?_⟩
    ·rw [← HL2.out,← HL1.out,HL.out,encKeys_take n.keys n.kids.tail k x i HX.out (by rw [List.getElem?_tail]; exact HII.out)]
     simp [txt,List.append_assoc]
    ·exact Ext.grown (Ext.grown HE.out.drew hgrow1 (fun g' hg' => by simp [Value.ownBlock] at hg'; exact .inr (by omega))) hgrow2 (fun g' hg' => by simp [Value.ownBlock] at hg'; exact .inr (by omega))
    ·exact (hgrow2.block _ (by have := hgrow1.size; simp at this; omega) (by simp [Value.ownBlock]; omega)).trans ((hgrow1.block _ (by simp; omega) (by simp [Value.ownBlock]; omega)).trans bb)
   case measure => have := HK0.out; omega
  ·have hke : k = n.keys.length := by omega
   have HKE := Lib.hid hke
   clear hke
   have hconv : (convert 98 9 (.slice (some ⟨g,0,none⟩) L.length cap)).run Tryz.prog wr = .ok (.string (str L)) wr :=
    run_convert_bytes_back (P := Tryz.prog) wr 98 9 5 ⟨g,0,none⟩ cap L Tryz.underlying98 Tryz.underlying5 Tryz.underlying9 (fun j hj => HO.out.cells (g := g) rfl j _ (by simp [bcs,hj]))
   go_wp2_with fail
   go_ret2
   refine ⟨?_,HE.out⟩
   have hfin : L = n.enc := by
    have htl : n.kids.tail.length = n.keys.length := by have := HKL.out; simp; omega
    rw [HL.out,HKE.out,List.take_length,← htl,List.take_length,← HL0.out]
    unfold Nd.enc
    rw [HLF.out,if_neg (by simp)]
    have hhd : n.kids.headD 0 = i0 := by have := HI0.out; cases hkk : n.kids with | nil => rw [hkk] at this; simp at this | cons a b => rw [hkk] at this; simpa using this
    rw [hhd]; simp
   rw [hfin]
   rfl
theorem encCells_take (cs : List Cell) (k : Nat) (c : Cell) (h : cs[k]? = some c) : encCells (cs.take (k + 1)) = encCells (cs.take k) ++ c.enc := by
 rw [List.take_add_one,h]; simp [encCells]
theorem Cell.enc_len {c : Cell} (h : c.ok = true) : c.enc.length ≤ 300 := by
 have := Cell.ok_bounds h
 unfold Cell.enc txt
 split <;> simp [n4_len] <;> omega
theorem encCells_len (cs : List Cell) (h : ∀ c ∈ cs,c.ok = true) : (encCells cs).length ≤ cs.length * 300 := by
 induction cs with
 | nil => simp [encCells]
 | cons c cs ih =>
  have h1 := Cell.enc_len (h c (by simp))
  have h2 := ih (fun c hc => h c (by simp [hc]))
  simp only [encCells,List.flatMap_cons,List.length_append,List.length_cons] at *
  omega
theorem at_ne {g1 n cap g2 H x : Nat} (h : (Value.slice (some ⟨g1,0,none⟩) n cap).ownBlock = some g2 ∨ g2 = H) (h1 : g1 ≠ x) (h2 : x < H) : g2 ≠ x := by
 rcases h with h | h
 ·simp [Value.ownBlock] at h; omega
 ·omega
theorem le_ne {g1 n cap g2 H x : Nat} (h : (Value.slice (some ⟨g1,0,none⟩) n cap).ownBlock = some g2 ∨ H ≤ g2) (h1 : g1 ≠ x) (h2 : x < H) : g2 ≠ x := by
 rcases h with h | h
 ·simp [Value.ownBlock] at h; omega
 ·omega
theorem gb {w w' : World} {row : Option Nat} (h : w.grownBy w' row) {B : Nat} (hb : B ≤ w.heap.size) : B ≤ w'.heap.size := Nat.le_trans hb h.size
theorem gba {w w' : World} {row : Option Nat} {o : Obj} (h : ((w.alloc o).drew).grownBy w' row) {B : Nat} (hb : B ≤ w.heap.size) : B ≤ w'.heap.size := Nat.le_trans (Nat.le_trans hb (by simp)) h.size
theorem cad {w : World} {g i : Nat} {v : Value} (h : w.cell? ⟨g,i,none⟩ = some v) (o : Obj) : (w.alloc o).drew.cell? ⟨g,i,none⟩ = some v := by
 have hlt := World.block_lt_of_cell? w _ h
 exact (World.cell?_alloc_lt w o ⟨g,i,none⟩ hlt).trans h
theorem ne_own {g1 x n cap : Nat} (h : g1 ≠ x) : some x ≠ (Value.slice (some ⟨g1,0,none⟩) n cap).ownBlock := by simp [Value.ownBlock]; omega
theorem lt_n4 {L L3 : Bs} {n : Nat} (H : Hid (L ++ n4 n = L3)) (h : L.length < 999000) : L3.length < 1000000 := by rw [← H.out]; simp [n4_len]; omega
theorem own_snoc {w : World} {base g cap : Nat} {L : Bs} {b : UInt8} {c : Int} (hb : (b.toNat : Int) = c) (h : w.ownsRow base 5 1 (.slice (some ⟨g,0,none⟩) (L.length + 1) cap) (L.length + 1) (bcs L ++ [.int .u8 c])) :
  Hid (w.ownsRow base 5 1 (.slice (some ⟨g,0,none⟩) (L.length + 1) cap) (L ++ [b] : Bs).length (bcs (L ++ [b]))) := by
 show World.ownsRow _ _ _ _ _ _ _
 rw [bcs_append,List.length_append]
 subst hb
 exact h
theorem enc_leaf (n : Nd) (w : World) (F : Nat → Prop) (A1 : Option Addr) (c1 : Nat) (A2 : Option Addr) (c2 : Nat) (A3 : Option Addr) (c3 : Nat) (hn : NodeAt w F A1 c1 A2 c2 A3 c3 n) (hno : n.ok = true) (hl : n.size ≤ 500) (hlf : n.leaf = true) :
  Calls Tryz.prog 180 #[n.value A1 c1 A2 c2 A3 c3] w fun e w' => e = .returned (.tuple #[.string (str n.enc),.int .i64 0]) ∧ Ext No w w' := by
 have hO := Nd.Ok.of hno
 have hf := hO.fits
 have HC := Lib.hid (fun w hn => check_any n w F A1 c1 A2 c2 A3 c3 hn hf)
 have HS := Lib.hid (fun w hn => size_any n w F A1 c1 A2 c2 A3 c3 hn hf)
 rw [Nd.chk_ok hno] at HC
 clear hno
 have hl' : ¬ ((500 : Int) < n.size) := by omega
 have HLF := Lib.hid hlf
 obtain ⟨i0,hti,htz0,htz1,htz2⟩ := info_parts Tryz.info5
 go_enter Tryz.func180,Tryz.ntmps180
 simp only [Nd.value,hlf]
 simp only [Nd.value,hlf] at HC HS
 clear hlf
 go_wp2_with fail
 refine (HC.out _ (hn.ext ((Ext.refl _ w).alloc _))).mono ?_
 rintro e w1 ⟨rfl,hb1⟩
 have bb := (Blk.new w 40 #[.bool true,.slice A1 n.cells.length c1,.slice A2 n.keys.length c2,.slice A3 n.kids.length c3]).ext hb1 (fun h => h)
 have q0 := bb.cell 0
 have q1 := bb.cell 1
 have q2 := bb.cell 2
 have q3 := bb.cell 3
 have bl := bb.lt
 simp at q0 q1 q2 q3
 go_wp2_with fail
 refine (HS.out _ (hn.ext (((Ext.refl _ w).alloc _).trans_ hb1.of_no))).mono ?_
 rintro e w2 ⟨rfl,hb2⟩
 have hE2 : Ext No w w2 := by (repeat' (first | exact Ext.refl _ _ | assumption | apply Ext.alloc | apply Ext.drewN | apply Ext.drew | refine Ext.setNew ?_ (by first | omega | (simp; omega) | simp) _ _ | refine Ext.setF ?_ (by first | exact Or.inl rfl | exact Or.inr rfl | rfl) _ _ | refine Ext.trans_ ?_ (by assumption) | refine Ext.trans_ ?_ (Ext.of_no (by assumption))))
 have bb := bb.ext hb2 (fun h => h)
 have q0 := bb.cell 0
 have q1 := bb.cell 1
 have bl := bb.lt
 simp at q0 q1
 have HE2 := Lib.hid hE2
 have hwr := wrap_u8_small n.cells.length (by have := hO.a1; omega)
 have hk255 : (n.cells.length : Int) % 256 = n.cells.length := by have := hO.a1; omega
 have HB2 : Hid (bcs [1,UInt8.ofNat n.cells.length] = [.int .u8 1,.int .u8 (n.cells.length : Int)]) := by
  have := ofNat_lt n.cells.length (by have := hO.a1; omega)
  show bcs _ = _
  simp only [bcs,List.map_cons,List.map_nil,this]; rfl
 have HC1 := Lib.hid hn.cells
 have hcok := hO.c
 have ha1 := hO.a1
 clear hn HC HS hb1 hb2 hE2 hl'
 go_wp2_with fail
 have hown3 := World.ownsRow_lit (base := w.heap.size + 1) (e := 5) (size := 1) w2 #[.int .u8 1,.int .u8 (n.cells.length : Int)] 2 (by omega) (by decide) rfl
 have hE3 : Ext No w (w2.alloc (.cells #[.int .u8 1,.int .u8 (n.cells.length : Int)] 5)) := HE2.out.alloc _
 have bb3 := bb.alloc (.cells #[.int .u8 1,.int .u8 (n.cells.length : Int)] 5)
 rw [← HB2.out] at hown3
 have hown3' : (w2.alloc (.cells #[.int .u8 1,.int .u8 (n.cells.length : Int)] 5)).ownsRow (w.heap.size + 1) 5 1 (.slice (some ⟨w2.heap.size,0,none⟩) 2 2) 2 (bcs [1,UInt8.ofNat n.cells.length]) := by
  rw [HB2.out]; exact World.ownsRow_lit (base := w.heap.size + 1) (e := 5) (size := 1) w2 #[.int .u8 1,.int .u8 (n.cells.length : Int)] 2 (by omega) (by decide) rfl
 go_loopg [7,60] n.cells.length (fun gk v i wr => ∃ (k : Nat) (g cap : Nat) (L : Bs),k + gk = n.cells.length ∧ i = .int .i64 (k : Int) ∧ v = .slice (some ⟨g,0,none⟩) L.length cap ∧ wr.ownsRow (w.heap.size + 1) 5 1 (.slice (some ⟨g,0,none⟩) L.length cap) L.length (bcs L) ∧ L = [1,UInt8.ofNat n.cells.length] ++ encCells (n.cells.take k) ∧ Ext No w wr ∧ Blk wr w.heap.size 40 #[.bool true,.slice A1 n.cells.length c1,.slice A2 n.keys.length c2,.slice A3 n.kids.length c3])
 case atStart => exact ⟨0,w2.heap.size,2,[1,UInt8.ofNat n.cells.length],by omega,rfl,rfl,hown3',by simp [encCells],hE3,bb3⟩
 case round =>
  clear hown3 hown3' hE3 bb3
  obtain ⟨k,g,cap,L,hk0,rfl,rfl,hown,hL,hE,bb⟩ := hrel
  have hk : k ≤ n.cells.length := by omega
  have HK0 := Lib.hid hk0; have HL := Lib.hid hL; have HO := Lib.hid hown
  have hLb : L.length ≤ 2 + k * 300 := by
   have h1 := encCells_len (n.cells.take k) (fun x hx => hcok x (List.mem_of_mem_take hx))
   have h2 : (n.cells.take k).length ≤ k := List.length_take_le _ _
   have h4 := Nat.mul_le_mul_right 300 h2
   rw [hL,List.length_append]; simp; omega
  clear hk0 hL hown
  have HE := Lib.hid hE
  have q1 := bb.cell 1
  have bl := bb.lt
  simp at q1
  by_cases hlt : k < n.cells.length
  ·obtain ⟨x,hx⟩ : ∃ x,n.cells[k]? = some x := ⟨_,List.getElem?_eq_getElem hlt⟩
   have hxok := hcok x (List.mem_of_getElem? hx)
   have hxb := Cell.ok_bounds hxok
   obtain ⟨hx1,hx2,hx3,hx4,hx5⟩ := hxb
   obtain ⟨b,o,hA,_,e0,e1,e2,e3⟩ := (HC1.out.ext hE.of_no).cellAt hx
   subst hA
   have hbw : b < w.heap.size := by
    obtain ⟨bw,ow,hAw,_,ew,_⟩ := HC1.out.cellAt hx
    injection hAw with hAw; injection hAw with hA1 hA2
    rw [hA1]; exact World.block_lt_of_cell? w _ ew
   obtain ⟨hg1,hg2⟩ := HO.out.lt g rfl
   have lbr : b < wr.heap.size := by omega
   have HX := Lib.hid hx
   clear hx
   go_wp2_with fail
   refine (text_any (w.heap.size + 1) _ L x.key (by omega) _ (HO.out.alloc _) (by simp; omega) (by omega)).mono ?_
   rintro e w5 ⟨g1,cap1,rfl,hown1,hgrow1,hat1⟩
   generalize hL1 : (L ++ UInt8.ofNat x.key.length :: x.key : Bs) = L1 at hown1 ⊢
   have HL1 := Lib.hid hL1; have HO1 := Lib.hid hown1
   have hL1b : L1.length ≤ 200 + k * 300 := by rw [← hL1]; simp; omega
   clear hL1 hown1
   have hcb := (Blk.new wr 45 #[.string (str x.key),.string (str x.val),.int .i64 (x.over : Int),.int .i64 (x.len : Int)])
   have hcb5 : Blk w5 wr.heap.size 45 #[.string (str x.key),.string (str x.val),.int .i64 (x.over : Int),.int .i64 (x.len : Int)] := (hgrow1.block _ (by simp) (by simp [Value.ownBlock]; omega)).trans hcb
   have p1 := hcb5.cell 1
   have p2 := hcb5.cell 2
   have p3 := hcb5.cell 3
   have pl := hcb5.lt
   simp at p1 p2 p3
   obtain ⟨hg3,hg4⟩ := HO1.out.lt g1 rfl
   have hgne : g1 ≠ wr.heap.size := by
    rcases hat1 with h | h
    ·simp [Value.ownBlock] at h; omega
    ·simp at h; omega
   have m11 : (L1 ++ [1] : Bs).length < 999000 := by simp; omega
   have m10 : (L1 ++ [0] : Bs).length < 1000000 := by simp; omega
   have m1 : w.heap.size + 1 ≤ w5.heap.size := by omega
   have m2 : L1.length + 1 ≤ maxLen := by unfold maxLen; omega
   have m3 : (L1.length + 1) * 1 ≤ 140737488355328 := by omega
   have m4 : ∀ o,w.heap.size + 1 ≤ (w5.alloc o).drew.heap.size := fun o => by simp; omega
   have m5 : ∀ o,(w5.alloc o).drew.heap.size = w5.heap.size + 1 := fun o => by simp
   have m6 : wr.heap.size < w5.heap.size + 1 := by omega
   have m7 : x.len < 4294967296 := by omega
   have m8 : x.over < 4294967296 := by omega
   have m9 : x.val.length < 256 := by omega
   have n1 : ∀ u ∈ [Value.int .u8 1],u.oneCell' = true := by simp [Value.oneCell']
   have n0 : ∀ u ∈ [Value.int .u8 0],u.oneCell' = true := by simp [Value.oneCell']
   have m12 : (L1 ++ [1] : Bs).length < 1000000 := by omega
   by_cases hov : (0 : Int) < x.over
   ·have hov' : 0 < x.over := by omega
    go_wp2_with fail
    go_region_held3 (fun w' => w'.cell? ⟨wr.heap.size,2,none⟩ = some (.int .i64 (x.over : Int)) ∧ w'.cell? ⟨wr.heap.size,3,none⟩ = some (.int .i64 (x.len : Int))) (go_keep)
     (first
      | (go_at_call_of 202 (Value.int .i64 (x.len : Int)); refine (four_any (w.heap.size + 1) _ (L1 ++ [1]) x.len m7 _ (by exact HO2.out) (by exact gba hgrow2 m1) m12).mono ?_; rintro e w7 ⟨g3,cap3,rfl,hown3,hgrow3,hat3⟩; generalize hL3 : (L1 ++ [1] ++ n4 x.len : Bs) = L3 at hown3 ⊢; have HL3 := Lib.hid hL3; have HO3 := Lib.hid hown3; clear hL3 hown3; have r2 := cell_grown hgrow3 t2 (ne_own hg2ne); have r3 := cell_grown hgrow3 t3 (ne_own hg2ne))
      | (go_at_call_of 202 (Value.int .i64 (x.over : Int)); refine (four_any (w.heap.size + 1) _ L3 x.over m8 _ (by exact HO3.out) (by exact gb hgrow3 (gba hgrow2 m1)) (by exact lt_n4 HL3 m11)).mono ?_; rintro e w8 ⟨g4,cap4,rfl,hown4,hgrow4,hat4⟩; generalize hL4 : (L3 ++ n4 x.over : Bs) = L4 at hown4 ⊢; have HL4 := Lib.hid hL4; have HO4 := Lib.hid hown4; clear hL4 hown4; have hg3ne : g3 ≠ wr.heap.size := le_ne hat3 hg2ne (gba hgrow2 pl); have s2 := cell_grown hgrow4 r2 (ne_own hg3ne); have s3 := cell_grown hgrow4 r3 (ne_own hg3ne))
      | ((refine step_append_lies _ (by rfl) _ _ _ (by rfl) (w.heap.size + 1) 5 i0 (.int .u8 0) 1 1 Tryz.underlying98 hti htz0 htz1 htz2 rfl (by decide) (.slice (some ⟨g1,0,none⟩) L1.length cap1) L1.length (bcs L1) (by rfl) (by exact HO1.out.alloc _) ⟨w5.heap.size,0,none⟩ 1 1 [.int .u8 1] (by rfl) (by rfl) (by exact World.news_of_block (cs := #[.int .u8 1]) (t := 5) (fr := (0,0)) (heap_alloc_new w5 _)) n1 (by decide) m2 m3 (by exact m4 _) (w5.heap.size + 1) (by exact m5 _) ?_); intro g2 cap2 w6 hown2 hgrow2 hat2 hlt2; have HO2 := own_snoc (L := L1) (b := 1) (c := 1) rfl hown2; clear hown2; have hg2ne : g2 ≠ wr.heap.size := at_ne hat2 hgne m6; have t2 := cell_grown hgrow2 (cad p2 _) (ne_own hgne); have t3 := cell_grown hgrow2 (cad p3 _) (ne_own hgne)))
    go_wp2_with fail
    go_roundg (gk - 1)
    case rel =>
     have z2 := hgrow2.size
     have z3 := hgrow3.size
     simp at z2 z3
     refine ⟨k + 1,g4,cap4,L4,by have := HK0.out; omega,by go_num,rfl,HO4.out,?_,?_,?_⟩
     ·rw [← HL4.out,← HL3.out,← HL1.out,HL.out,encCells_take n.cells k x HX.out]
      simp [Cell.enc,txt,hov']
     ·have h1 := Ext.grown (HE.out.alloc _) hgrow1 (fun g' hg' => by simp [Value.ownBlock] at hg'; exact .inr (by omega))
      have h2 := Ext.grown (h1.alloc _).drew hgrow2 (fun g' hg' => by simp [Value.ownBlock] at hg'; exact .inr (by omega))
      have hg22 := (HO2.out.lt g2 rfl).1
      have hg33 := (HO3.out.lt g3 rfl).1
      exact Ext.grown (Ext.grown h2 hgrow3 (fun g' hg' => by simp [Value.ownBlock] at hg'; exact .inr (by omega))) hgrow4 (fun g' hg' => by simp [Value.ownBlock] at hg'; exact .inr (by omega))
     ·have hg22 := (HO2.out.lt g2 rfl).1
      have hg33 := (HO3.out.lt g3 rfl).1
      have w5l := hgrow1.size
      simp at w5l
      exact (hgrow4.block _ (by omega) (by simp [Value.ownBlock]; omega)).trans ((hgrow3.block _ (by omega) (by simp [Value.ownBlock]; omega)).trans ((hgrow2.block _ (by simp; omega) (by simp [Value.ownBlock]; omega)).trans ((Blk.alloc ((hgrow1.block _ (by simp; omega) (by simp [Value.ownBlock]; omega)).trans (bb.alloc _)) _))))
    case measure => have := HK0.out; omega
   ·have hov' : ¬ 0 < x.over := by omega
    go_wp2_with fail
    go_region_held3 (fun w' => w'.cell? ⟨wr.heap.size,1,none⟩ = some (.string (str x.val))) (go_keep)
     (first
      | (go_at_call 203; refine (text_any (w.heap.size + 1) _ (L1 ++ [0]) x.val m9 _ (by exact HO2.out) (by exact gba hgrow2 m1) m10).mono ?_; rintro e w7 ⟨g3,cap3,rfl,hown3,hgrow3,hat3⟩; generalize hL3 : (L1 ++ [0] ++ UInt8.ofNat x.val.length :: x.val : Bs) = L3 at hown3 ⊢; have HL3 := Lib.hid hL3; have HO3 := Lib.hid hown3; clear hL3 hown3; have r2 := cell_grown hgrow3 t2 (ne_own hg2ne))
      | ((refine step_append_lies _ (by rfl) _ _ _ (by rfl) (w.heap.size + 1) 5 i0 (.int .u8 0) 1 1 Tryz.underlying98 hti htz0 htz1 htz2 rfl (by decide) (.slice (some ⟨g1,0,none⟩) L1.length cap1) L1.length (bcs L1) (by rfl) (by exact HO1.out.alloc _) ⟨w5.heap.size,0,none⟩ 1 1 [.int .u8 0] (by rfl) (by rfl) (by exact World.news_of_block (cs := #[.int .u8 0]) (t := 5) (fr := (0,0)) (heap_alloc_new w5 _)) n0 (by decide) m2 m3 (by exact m4 _) (w5.heap.size + 1) (by exact m5 _) ?_); intro g2 cap2 w6 hown2 hgrow2 hat2 hlt2; have HO2 := own_snoc (L := L1) (b := 0) (c := 0) rfl hown2; clear hown2; have hg2ne : g2 ≠ wr.heap.size := at_ne hat2 hgne m6; have t2 := cell_grown hgrow2 (cad p1 _) (ne_own hgne)))
    go_wp2_with fail
    go_roundg (gk - 1)
    case rel =>
     have z2 := hgrow2.size
     simp at z2
     refine ⟨k + 1,g3,cap3,L3,by have := HK0.out; omega,by go_num,rfl,HO3.out,?_,?_,?_⟩
     ·rw [← HL3.out,← HL1.out,HL.out,encCells_take n.cells k x HX.out]
      simp [Cell.enc,txt,hov']
     ·have h1 := Ext.grown (HE.out.alloc _) hgrow1 (fun g' hg' => by simp [Value.ownBlock] at hg'; exact .inr (by omega))
      have h2 := Ext.grown (h1.alloc _).drew hgrow2 (fun g' hg' => by simp [Value.ownBlock] at hg'; exact .inr (by omega))
      have hg22 := (HO2.out.lt g2 rfl).1
      exact Ext.grown h2 hgrow3 (fun g' hg' => by simp [Value.ownBlock] at hg'; exact .inr (by omega))
     ·have hg22 := (HO2.out.lt g2 rfl).1
      have w5l := hgrow1.size
      simp at w5l
      exact (hgrow3.block _ (by omega) (by simp [Value.ownBlock]; omega)).trans ((hgrow2.block _ (by simp; omega) (by simp [Value.ownBlock]; omega)).trans ((Blk.alloc ((hgrow1.block _ (by simp; omega) (by simp [Value.ownBlock]; omega)).trans (bb.alloc _)) _)))
    case measure => have := HK0.out; omega
  ·have hke : k = n.cells.length := by omega
   have HKE := Lib.hid hke
   clear hke
   have hconv : (convert 98 9 (.slice (some ⟨g,0,none⟩) L.length cap)).run Tryz.prog wr = .ok (.string (str L)) wr :=
    run_convert_bytes_back (P := Tryz.prog) wr 98 9 5 ⟨g,0,none⟩ cap L Tryz.underlying98 Tryz.underlying5 Tryz.underlying9 (fun j hj => HO.out.cells (g := g) rfl j _ (by simp [bcs,hj]))
   go_wp2_with fail
   go_ret2
   refine ⟨?_,HE.out⟩
   have hfin : L = n.enc := by
    rw [HL.out,HKE.out,List.take_length]
    unfold Nd.enc
    rw [HLF.out,if_pos rfl]
    simp
   rw [hfin]
   rfl
theorem Tryz.info45 : (Tryz.prog.info? 45).map (fun i => (i.zero,i.size,i.bytes)) = some (some (.agg #[.string ⟨#[]⟩,.string ⟨#[]⟩,.int .i64 0,.int .i64 0]),4,48) := by kernel_rfl
theorem Tryz.info9 : (Tryz.prog.info? 9).map (fun i => (i.zero,i.size,i.bytes)) = some (some (.string ⟨#[]⟩),1,16) := by kernel_rfl
theorem Tryz.info3 : (Tryz.prog.info? 3).map (fun i => (i.zero,i.size,i.bytes)) = some (some (.int .i64 0),1,8) := by kernel_rfl
def Nd.one (n : Nd) (r : Rst) : Nd × Rst :=
 if n.leaf then ({ n with cells := n.cells ++ [r.cell.1] },r.cell.2) else ({ n with keys := n.keys ++ [r.text.1],kids := n.kids ++ [r.text.2.four.1] },r.text.2.four.2)
def decLoop : Nat → Nd → Rst → Nd × Rst
 | 0,n,r => (n,r)
 | k + 1,n,r => if r.bad then (n,r) else decLoop k (n.one r).1 (n.one r).2
def Rst.head (r : Rst) : Nd × Rst :=
 if r.byte.1 = 1 then (⟨true,[],[],[]⟩,r.byte.2.byte.2) else (⟨false,[],[],[r.byte.2.byte.2.four.1]⟩,r.byte.2.byte.2.four.2)
def Rst.loop (r : Rst) : Nd × Rst := decLoop r.byte.2.byte.1 r.head.1 r.head.2
def dec (s : Bs) : Option Nd :=
 if 500 < s.length then none
 else if (⟨s,false⟩ : Rst).loop.2.bad then none
 else if (⟨s,false⟩ : Rst).loop.2.s.length ≠ 0 then none
 else if (⟨s,false⟩ : Rst).byte.1 ≠ 1 ∧ (⟨s,false⟩ : Rst).byte.1 ≠ 2 then none
 else if (⟨s,false⟩ : Rst).loop.1.ok then some (⟨s,false⟩ : Rst).loop.1 else none
def Old (w : World) : Nat → Prop := fun b => b < w.heap.size
def Nd.zero : Value := .agg #[.bool false,.slice none 0 0,.slice none 0 0,.slice none 0 0]
def Told (w : World) (o : Option Nd) (e : Ending) (w' : World) : Prop :=
 Ext No w w' ∧ match o with
  | none => e = .returned (.tuple #[Nd.zero,.int .i64 5])
  | some n => ∃ A1 c1 A2 c2 A3 c3,e = .returned (.tuple #[n.value A1 c1 A2 c2 A3 c3,.int .i64 0]) ∧ NodeAt w' (Old w) A1 c1 A2 c2 A3 c3 n
def Lo (n : Nat) : Nat → Prop := fun b => b < n
theorem Rd.own_lo {w' : World} {base : Nat} {e : TypeId} {sz n cap : Nat} {A : Option Addr} {xs : List Value} (h : w'.ownsRow base e sz (.slice A n cap) n xs) (hs : 0 < sz) : Rd w' (Lo base) sz A n xs := by
 refine ⟨h.1,fun hn => ?_⟩
 rcases h.2 with ⟨hv,h0⟩ | ⟨g,cap',cur,hv,hbg,hg,hnc,hcm,hcs,htake⟩
 ·omega
 ·injection hv with hA _ hc
  subst hA; subst hc
  refine ⟨g,0,rfl,fun h' => by unfold Lo at h'; omega,fun j u hu => ?_⟩
  have := h.cells (g := g) rfl j u hu
  rw [Nat.zero_add]
  simp only [Addr.add] at this
  split at this
  ·rename_i hj
   have : j = 0 := by simpa using hj
   subst this; assumption
  ·simpa using this
theorem NodeAt.mono {w : World} {F G : Nat → Prop} {A1 : Option Addr} {c1 : Nat} {A2 : Option Addr} {c2 : Nat} {A3 : Option Addr} {c3 : Nat} {n : Nd} (h : NodeAt w F A1 c1 A2 c2 A3 c3 n) (hG : ∀ b,b < w.heap.size → G b → F b) : NodeAt w G A1 c1 A2 c2 A3 c3 n :=
 ⟨h.cells.mono (by omega) hG,h.keys.mono (by omega) hG,h.kids.mono (by omega) hG,h.l1,h.l2,h.l3,h.b1,h.b2,h.b3,h.e1,h.e2,h.e3⟩
theorem Rd.own {w w' : World} {base : Nat} {e : TypeId} {sz n cap : Nat} {A : Option Addr} {xs : List Value} (h : w'.ownsRow base e sz (.slice A n cap) n xs) (hb : w.heap.size ≤ base) (hs : 0 < sz) : Rd w' (Old w) sz A n xs := by
 refine ⟨h.1,fun hn => ?_⟩
 rcases h.2 with ⟨hv,h0⟩ | ⟨g,cap',cur,hv,hbg,hg,hnc,hcm,hcs,htake⟩
 ·omega
 ·injection hv with hA _ hc
  subst hA; subst hc
  refine ⟨g,0,rfl,fun h' => by unfold Old at h'; omega,fun j u hu => ?_⟩
  have := h.cells (g := g) rfl j u hu
  rw [Nat.zero_add]
  simp only [Addr.add] at this
  split at this
  ·rename_i hj
   have : j = 0 := by simpa using hj
   subst this; assumption
  ·simpa using this
theorem own_cap {w : World} {base : Nat} {e : TypeId} {sz n cap : Nat} {A : Option Addr} {xs : List Value} (h : w.ownsRow base e sz (.slice A n cap) n xs) : n ≤ cap := by
 rcases h.2 with ⟨hv,h0⟩ | ⟨g,cap',cur,hv,hbg,hg,hnc,hcm,hcs,htake⟩
 ·omega
 ·injection hv with hA _ hc
  omega
theorem own_nilcap {w : World} {base : Nat} {e : TypeId} {sz n cap : Nat} {A : Option Addr} {xs : List Value} (h : w.ownsRow base e sz (.slice A n cap) n xs) : A = none → cap = 0 := by
 rintro rfl
 rcases h.2 with ⟨hv,h0⟩ | ⟨g,cap',cur,hv,_⟩
 ·injection hv
 ·injection hv with hA; cases hA
theorem decLoop_stop (k : Nat) (n : Nd) (r : Rst) (h : r.bad = true) : decLoop k n r = (n,r) := by
 match k with
 | 0 => rfl
 | k + 1 => simp [decLoop,h]
theorem Blk.new_at (w : World) (t : TypeId) (cs : Array Value) {b : Nat} (h : w.heap.size = b) : Blk (w.alloc (.cells cs t)) b t cs := h ▸ Blk.new w t cs
theorem Ext.on_new {F : Nat → Prop} {w0 w w' : World} {p : Nat} (h : Ext F w0 w) (hx : Ext (On p) w w') (hp : w0.heap.size ≤ p) : Ext F w0 w' :=
 ⟨hx.os.trans h.os,hx.tape.trans h.tape,hx.output.trans h.output,Nat.le_trans h.size hx.size,fun i hi hn => (hx.block i (Nat.lt_of_lt_of_le hi h.size) (fun h' => by unfold On at h'; omega)).trans (h.block i hi hn)⟩
theorem off_on {p b : Nat} (h : b ≠ p) : ¬ On p b := h
theorem Rst.cell_fits (r : Rst) : r.cell.1.fits := by
 have h1 := r.text_len
 have h2 := r.text.2.byte.2.text_len
 have h3 := r.text.2.byte.2.four_lt
 have h4 := r.text.2.byte.2.four.2.four_lt
 unfold Rst.cell
 split
 ·exact ⟨by simp only; omega,by simp only; omega,by simp,by simp⟩
 ·split
  ·exact ⟨by simp only; omega,by simp,by simp only; omega,by simp only; omega⟩
  ·exact ⟨by simp only; omega,by simp,by simp,by simp⟩
theorem own_push {w : World} {base g cap : Nat} {cs : List Cell} {c : Cell} (h : w.ownsRow base 45 4 (.slice (some ⟨g,0,none⟩) (cs.length + 1) cap) (cs.length + 1) (cellVals cs ++ c.vals)) :
  w.ownsRow base 45 4 (.slice (some ⟨g,0,none⟩) (cs ++ [c]).length cap) (cs ++ [c]).length (cellVals (cs ++ [c])) := by
 rw [cellVals_append,List.length_append]
 simpa [cellVals] using h
theorem own_ext {F : Nat → Prop} {w w' : World} {base : Nat} {e : TypeId} {sz n : Nat} {v : Value} {xs : List Value} (h : w.ownsRow base e sz v n xs) (hx : Ext F w w') (hF : ∀ g,base ≤ g → ¬ F g) : w'.ownsRow base e sz v n xs := by
 refine ⟨h.1,?_⟩
 rcases h.2 with h0 | ⟨g,cap,cur,hv,hbg,hg,rest⟩
 ·exact .inl h0
 ·exact .inr ⟨g,cap,cur,hv,hbg,(hx.block g (by
   rcases Nat.lt_or_ge g w.heap.size with hlt | hge
   ·exact hlt
   ·rw [Array.getElem?_eq_none hge] at hg; cases hg) (hF g hbg)).trans hg,rest⟩
theorem own_ge {w : World} {base : Nat} {e : TypeId} {sz n m cap : Nat} {A : Option Addr} {xs : List Value} (h : w.ownsRow base e sz (.slice A n cap) m xs) {x : Nat} (hx : x < base) : some x ≠ (Value.slice A n cap).ownBlock := by
 intro e'
 have := h.lt x e'.symm
 omega
theorem own_ge' {w : World} {base : Nat} {e : TypeId} {sz n m cap : Nat} {A : Option Addr} {xs : List Value} (h : w.ownsRow base e sz (.slice A n cap) m xs) {B : Nat} (hx : B ≤ base) {F : Nat → Prop} : ∀ g',(Value.slice A n cap).ownBlock = some g' → F g' ∨ B ≤ g' := by
 intro g' e'
 have := h.lt g' e'
 exact .inr (by omega)
theorem Blk.grown {w w' : World} {row : Option Nat} (h : w.grownBy w' row) {g : Nat} {t : TypeId} {cs : Array Value} (hb : Blk w g t cs) (hne : some g ≠ row) : Blk w' g t cs := (h.block g hb.lt hne).trans hb
theorem Cell.one (c : Cell) : ∀ u ∈ c.vals,u.oneCell' = true := by
 intro u hu
 simp [Cell.vals] at hu
 rcases hu with rfl | rfl | rfl | rfl <;> simp [Value.oneCell']
theorem Blk.of_ext {F : Nat → Prop} {w w' : World} {g : Nat} {t : TypeId} {cs : Array Value} (hx : Ext F w w') (h : Blk w g t cs) (hg : ¬ F g) : Blk w' g t cs := h.ext hx hg
theorem own_of_ext {F : Nat → Prop} {w w' : World} {base : Nat} {e : TypeId} {sz n : Nat} {v : Value} {xs : List Value} (hx : Ext F w w') (h : w.ownsRow base e sz v n xs) (hF : ∀ g,base ≤ g → ¬ F g) : w'.ownsRow base e sz v n xs := own_ext h hx hF
end Go.Proofs.YtccnemmlkcmceaaGreatDoor
