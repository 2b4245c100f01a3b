/- Contracts of the library, laid by the kit's commands (gen_shelf.py). No condition. -/
import Derived.Shelf.Strings.BuilderK
import Derived.Shelf.Strings.Trim
import Derived.Shelf.SlicesE.Clone
import Derived.Test.YtegglooojlheoaaDoorRows

namespace Go.Proofs.YtegglooojlheoaaDoor
open Go.Shelf Go.Proofs
def sh_lays169_ren : Go.Shelf.Ren := ⟨fun | 169 => 146 | n => n, fun | 70 => 189 | 9 => 9 | 0 => 0 | 72 => 191 | 37 => 77 | 127 => 208 | 3 => 3 | 5 => 5 | n => n, fun | n => n⟩
theorem sh_lays169 : Go.Proofs.Lays.n169 Tryd.prog sh_lays169_ren := {
  mixed := by kernel_rfl
  f169 := Tryd.func146.trans (congrArg some (by kernel_rfl))
  t0 := Tryd.underlying0
  a0 := Tryd.isAgg0
  z0 := Tryd.sizeOf0
  v0 := Tryd.zeroValue0
  t3 := Tryd.underlying3
  a3 := Tryd.isAgg3
  z3 := Tryd.sizeOf3
  v3 := Tryd.zeroValue3
  t9 := Tryd.underlying9
  a9 := Tryd.isAgg9
  z9 := Tryd.sizeOf9
  v9 := Tryd.zeroValue9
  t37 := Tryd.underlying77
  a37 := Tryd.isAgg77
  z37 := Tryd.sizeOf77
  v37 := Tryd.zeroValue77
  t70 := Tryd.underlying189
  a70 := Tryd.isAgg189
  z70 := Tryd.sizeOf189
  v70 := Tryd.zeroValue189
  t72 := Tryd.underlying191
  a72 := Tryd.isAgg191
  z72 := Tryd.sizeOf191
  v72 := Tryd.zeroValue191
  t127 := Tryd.underlying208
  a127 := Tryd.isAgg208
  z127 := Tryd.sizeOf208
  v127 := Tryd.zeroValue208 }
theorem sh_Builder_Extra_169 : Builder.Extra Tryd.prog sh_lays169_ren := {
  sizeBuilder := by kernel_rfl
  liesBuilder := by kernel_rfl
  t5 := Tryd.underlying5
  a5 := Tryd.isAgg5
  z5 := Tryd.sizeOf5
  v5 := Tryd.zeroValue5
  infoByte := by kernel_rfl
  cellsByte := by kernel_rfl
  sizeByte := by kernel_rfl
  neB5 := by decide }
def sh_lays161_ren : Go.Shelf.Ren := ⟨fun | 161 => 165 | 231 => 171 | 227 => 172 | 233 => 173 | 235 => 174 | 228 => 179 | 197 => 180 | 151 => 181 | 260 => 184 | 152 => 185 | 137 => 186 | 119 => 187 | 224 => 177 | 225 => 176 | 217 => 175 | 266 => 182 | n => n, fun | 9 => 9 | 4 => 4 | 3 => 3 | 5 => 5 | 117 => 224 | 116 => 223 | 0 => 0 | 124 => 227 | 105 => 231 | 21 => 21 | 119 => 237 | 46 => 152 | 139 => 240 | 138 => 239 | n => n, fun | 3 => 1 | 4 => 2 | n => n⟩
theorem sh_lays161 : Go.Proofs.Lays.n161 Tryd.prog sh_lays161_ren := {
  mixed := by kernel_rfl
  f119 := Tryd.func187.trans (congrArg some (by kernel_rfl))
  f137 := Tryd.func186.trans (congrArg some (by kernel_rfl))
  f151 := Tryd.func181.trans (congrArg some (by kernel_rfl))
  f152 := Tryd.func185.trans (congrArg some (by kernel_rfl))
  f161 := Tryd.func165.trans (congrArg some (by kernel_rfl))
  f197 := Tryd.func180.trans (congrArg some (by kernel_rfl))
  f217 := Tryd.func175.trans (congrArg some (by kernel_rfl))
  f224 := Tryd.func177.trans (congrArg some (by kernel_rfl))
  f225 := Tryd.func176.trans (congrArg some (by kernel_rfl))
  f227 := Tryd.func172.trans (congrArg some (by kernel_rfl))
  f228 := Tryd.func179.trans (congrArg some (by kernel_rfl))
  f231 := Tryd.func171.trans (congrArg some (by kernel_rfl))
  f233 := Tryd.func173.trans (congrArg some (by kernel_rfl))
  f235 := Tryd.func174.trans (congrArg some (by kernel_rfl))
  f260 := Tryd.func184.trans (congrArg some (by kernel_rfl))
  f266 := Tryd.func182.trans (congrArg some (by kernel_rfl))
  t0 := Tryd.underlying0
  a0 := Tryd.isAgg0
  z0 := Tryd.sizeOf0
  v0 := Tryd.zeroValue0
  t3 := Tryd.underlying3
  a3 := Tryd.isAgg3
  z3 := Tryd.sizeOf3
  v3 := Tryd.zeroValue3
  t4 := Tryd.underlying4
  a4 := Tryd.isAgg4
  z4 := Tryd.sizeOf4
  v4 := Tryd.zeroValue4
  t5 := Tryd.underlying5
  a5 := Tryd.isAgg5
  z5 := Tryd.sizeOf5
  v5 := Tryd.zeroValue5
  t9 := Tryd.underlying9
  a9 := Tryd.isAgg9
  z9 := Tryd.sizeOf9
  v9 := Tryd.zeroValue9
  t21 := Tryd.underlying21
  a21 := Tryd.isAgg21
  z21 := Tryd.sizeOf21
  v21 := Tryd.zeroValue21
  t46 := Tryd.underlying152
  a46 := Tryd.isAgg152
  z46 := Tryd.sizeOf152
  v46 := Tryd.zeroValue152
  t105 := Tryd.underlying231
  a105 := Tryd.isAgg231
  z105 := Tryd.sizeOf231
  v105 := Tryd.zeroValue231
  t116 := Tryd.underlying223
  a116 := Tryd.isAgg223
  z116 := Tryd.sizeOf223
  t117 := Tryd.underlying224
  a117 := Tryd.isAgg224
  z117 := Tryd.sizeOf224
  v117 := Tryd.zeroValue224
  t119 := Tryd.underlying237
  a119 := Tryd.isAgg237
  z119 := Tryd.sizeOf237
  t124 := Tryd.underlying227
  a124 := Tryd.isAgg227
  z124 := Tryd.sizeOf227
  v124 := Tryd.zeroValue227
  t138 := Tryd.underlying239
  a138 := Tryd.isAgg239
  z138 := Tryd.sizeOf239
  v138 := Tryd.zeroValue239
  t139 := Tryd.underlying240
  a139 := Tryd.isAgg240
  z139 := Tryd.sizeOf240
  v139 := Tryd.zeroValue240
  g3 := by kernel_rfl
  g4 := by kernel_rfl }
open Go.RowKit in
theorem sh_strings_TrimLeft_one (s : ByteArray) (c : UInt8) (hc : c.toNat < 128) (w : World) :
    Calls Tryd.prog 165 #[.string s, .string ⟨#[c]⟩] w fun e w' => e = .returned (.string ⟨(Lib.trimLeftB s.data.toList c).toArray⟩) ∧ w' = w := Any.strings_TrimLeft_one sh_lays161 s c hc w
open Go.RowKit in
theorem sh_Builder_String_any_k (B b : Nat) (l : List UInt8) (w : World) (h : Lib.IsBuilderF 191 5 B b (Lib.byteCells l) w) (hBw : B ≤ w.heap.size) :
    Calls Tryd.prog 146 #[.pointer (some ⟨b, 0, none⟩)] w fun e w' => e = .returned (.string ⟨l.toArray⟩) ∧ (Lib.IsBuilderF 191 5 B b (Lib.byteCells l) w' ∧ Below B w w' ∧ Lib.OthersKept 5 (some b) w w') := Any.Builder_String_any_k sh_lays169 sh_Builder_Extra_169 B b l w h hBw
def sh_laysSlE041_f141_ren : Go.Shelf.Ren := ⟨fun | 41 => 141 | n => n, fun | 22 => 23 | 23 => 141 | 4 => 4 | n => n, fun | n => n⟩
end Go.Proofs.YtegglooojlheoaaDoor
