/-
  The contracts of the library functions at this translation, laid by the kit (lay-plain.mjs).
-/
import Derived.Shelf.SlSortCmp.WholeK
import Derived.Shelf.SlicesQ.IndexFunc
import Derived.Shelf.SlicesE.Clone
import Derived.Shelf.Utf8.RuneCount
import Derived.Shelf.Unicode.DecodeAny
import Derived.Shelf.Small.Strs
import Derived.Shelf.Strings.OnBuilder
import Derived.Test.YtaeebgljcdfolaaGreatDoorProg
import Derived.Test.YtaeebgljcdfolaaGreatDoorM01
import Derived.Test.YtaeebgljcdfolaaGreatDoorM02
import Derived.Shelf.SlSortCmp.NoneTotal
namespace Go.Proofs
open Go.Shelf
def Tryz.sortRng_ren : Go.Shelf.Ren := ⟨fun | 6 => 93 | 15 => 107 | 14 => 117 | 28 => 132 | 29 => 133 | 20 => 145 | 21 => 146 | 22 => 147 | 23 => 148 | 24 => 149 | 25 => 150 | 26 => 151 | 27 => 152 | 46 => 168 | 47 => 155 | 48 => 156 | 49 => 169 | 50 => 170 | 57 => 179 | n => n, fun | 22 => 65 | 24 => 72 | 25 => 121 | 3 => 3 | 39 => 136 | 0 => 0 | 53 => 157 | 55 => 26 | 4 => 4 | 46 => 149 | 45 => 148 | 50 => 154 | 5 => 5 | 9 => 9 | 66 => 185 | 70 => 189 | 76 => 200 | 77 => 201 | n => n, fun | n => n⟩
theorem Tryz.sortRng : Go.Proofs.SlLaysF0.n6 Tryz.prog Tryz.sortRng_ren := {
  mixed := by kernel_rfl
  f6 := ⟨Tryz.f93.name, by decide, Tryz.func93.trans (congrArg some (by kernel_rfl))⟩
  f14 := ⟨Tryz.f117.name, by decide, Tryz.func117.trans (congrArg some (by kernel_rfl))⟩
  f15 := Tryz.func107.trans (congrArg some (by kernel_rfl))
  f20 := ⟨Tryz.f145.name, by decide, Tryz.func145.trans (congrArg some (by kernel_rfl))⟩
  f21 := ⟨Tryz.f146.name, by decide, Tryz.func146.trans (congrArg some (by kernel_rfl))⟩
  f22 := ⟨Tryz.f147.name, by decide, Tryz.func147.trans (congrArg some (by kernel_rfl))⟩
  f23 := ⟨Tryz.f148.name, by decide, Tryz.func148.trans (congrArg some (by kernel_rfl))⟩
  f24 := ⟨Tryz.f149.name, by decide, Tryz.func149.trans (congrArg some (by kernel_rfl))⟩
  f25 := ⟨Tryz.f150.name, by decide, Tryz.func150.trans (congrArg some (by kernel_rfl))⟩
  f26 := ⟨Tryz.f151.name, by decide, Tryz.func151.trans (congrArg some (by kernel_rfl))⟩
  f27 := ⟨Tryz.f152.name, by decide, Tryz.func152.trans (congrArg some (by kernel_rfl))⟩
  f28 := Tryz.func132.trans (congrArg some (by kernel_rfl))
  f29 := Tryz.func133.trans (congrArg some (by kernel_rfl))
  f46 := ⟨Tryz.f168.name, by decide, Tryz.func168.trans (congrArg some (by kernel_rfl))⟩
  f47 := Tryz.func155.trans (congrArg some (by kernel_rfl))
  f48 := Tryz.func156.trans (congrArg some (by kernel_rfl))
  f49 := ⟨Tryz.f169.name, by decide, Tryz.func169.trans (congrArg some (by kernel_rfl))⟩
  f50 := ⟨Tryz.f170.name, by decide, Tryz.func170.trans (congrArg some (by kernel_rfl))⟩
  f57 := ⟨Tryz.f179.name, by decide, Tryz.func179.trans (congrArg some (by kernel_rfl))⟩
  t0 := Tryz.underlying0
  a0 := Tryz.isAgg0
  z0 := Tryz.sizeOf0
  v0 := Tryz.zeroValue0
  t3 := Tryz.underlying3
  a3 := Tryz.isAgg3
  z3 := Tryz.sizeOf3
  v3 := Tryz.zeroValue3
  t4 := Tryz.underlying4
  a4 := Tryz.isAgg4
  z4 := Tryz.sizeOf4
  v4 := Tryz.zeroValue4
  t5 := Tryz.underlying5
  a5 := Tryz.isAgg5
  z5 := Tryz.sizeOf5
  v5 := Tryz.zeroValue5
  t9 := Tryz.underlying9
  a9 := Tryz.isAgg9
  z9 := Tryz.sizeOf9
  v9 := Tryz.zeroValue9
  t22 := Tryz.underlying65
  a22 := Tryz.isAgg65
  z22 := Tryz.sizeOf65
  v22 := Tryz.zeroValue65
  t25 := Tryz.underlying121
  a25 := Tryz.isAgg121
  z25 := Tryz.sizeOf121
  v25 := Tryz.zeroValue121
  t39 := Tryz.underlying136
  a39 := Tryz.isAgg136
  z39 := Tryz.sizeOf136
  v39 := Tryz.zeroValue136
  t45 := Tryz.underlying148
  a45 := Tryz.isAgg148
  z45 := Tryz.sizeOf148
  v45 := Tryz.zeroValue148
  t46 := Tryz.underlying149
  a46 := Tryz.isAgg149
  z46 := Tryz.sizeOf149
  v46 := Tryz.zeroValue149
  t50 := Tryz.underlying154
  a50 := Tryz.isAgg154
  z50 := Tryz.sizeOf154
  v50 := Tryz.zeroValue154
  t53 := Tryz.underlying157
  a53 := Tryz.isAgg157
  z53 := Tryz.sizeOf157
  v53 := Tryz.zeroValue157
  t55 := Tryz.underlying26
  a55 := Tryz.isAgg26
  z55 := Tryz.sizeOf26
  v55 := Tryz.zeroValue26
  t66 := Tryz.underlying185
  a66 := Tryz.isAgg185
  z66 := Tryz.sizeOf185
  v66 := Tryz.zeroValue185
  t70 := Tryz.underlying189
  a70 := Tryz.isAgg189
  z70 := Tryz.sizeOf189
  v70 := Tryz.zeroValue189
  t76 := Tryz.underlying200
  a76 := Tryz.isAgg200
  z76 := Tryz.sizeOf200
  v76 := Tryz.zeroValue200
  t77 := Tryz.underlying201
  a77 := Tryz.isAgg201
  z77 := Tryz.sizeOf201
  v77 := Tryz.zeroValue201 }
def Tryz.containsRng_ren : Go.Shelf.Ren := ⟨fun | 8 => 88 | 6 => 115 | n => n, fun | 22 => 65 | 23 => 72 | 25 => 113 | 4 => 4 | 3 => 3 | 0 => 0 | n => n, fun | n => n⟩
theorem Tryz.containsRng : Go.Proofs.SlLaysH0.n8 Tryz.prog Tryz.containsRng_ren := {
  mixed := by kernel_rfl
  f6 := ⟨Tryz.f115.name, by decide, Tryz.func115.trans (congrArg some (by kernel_rfl))⟩
  f8 := ⟨Tryz.f88.name, by decide, Tryz.func88.trans (congrArg some (by kernel_rfl))⟩
  t0 := Tryz.underlying0
  a0 := Tryz.isAgg0
  z0 := Tryz.sizeOf0
  v0 := Tryz.zeroValue0
  t3 := Tryz.underlying3
  a3 := Tryz.isAgg3
  z3 := Tryz.sizeOf3
  v3 := Tryz.zeroValue3
  t4 := Tryz.underlying4
  a4 := Tryz.isAgg4
  z4 := Tryz.sizeOf4
  v4 := Tryz.zeroValue4
  t22 := Tryz.underlying65
  a22 := Tryz.isAgg65
  z22 := Tryz.sizeOf65
  v22 := Tryz.zeroValue65
  t25 := Tryz.underlying113
  a25 := Tryz.isAgg113
  z25 := Tryz.sizeOf113
  v25 := Tryz.zeroValue113 }
def Tryz.containsId_ren : Go.Shelf.Ren := ⟨fun | 8 => 60 | 6 => 91 | n => n, fun | 22 => 62 | 23 => 28 | 25 => 57 | 4 => 4 | 3 => 3 | 0 => 0 | n => n, fun | n => n⟩
theorem Tryz.containsId : Go.Proofs.SlLaysH0.n8 Tryz.prog Tryz.containsId_ren := {
  mixed := by kernel_rfl
  f6 := ⟨Tryz.f91.name, by decide, Tryz.func91.trans (congrArg some (by kernel_rfl))⟩
  f8 := ⟨Tryz.f60.name, by decide, Tryz.func60.trans (congrArg some (by kernel_rfl))⟩
  t0 := Tryz.underlying0
  a0 := Tryz.isAgg0
  z0 := Tryz.sizeOf0
  v0 := Tryz.zeroValue0
  t3 := Tryz.underlying3
  a3 := Tryz.isAgg3
  z3 := Tryz.sizeOf3
  v3 := Tryz.zeroValue3
  t4 := Tryz.underlying4
  a4 := Tryz.isAgg4
  z4 := Tryz.sizeOf4
  v4 := Tryz.zeroValue4
  t22 := Tryz.underlying62
  a22 := Tryz.isAgg62
  z22 := Tryz.sizeOf62
  v22 := Tryz.zeroValue62
  t25 := Tryz.underlying57
  a25 := Tryz.isAgg57
  z25 := Tryz.sizeOf57
  v25 := Tryz.zeroValue57 }
def Tryz.indexOp_ren : Go.Shelf.Ren := ⟨fun | 6 => 109 | n => n, fun | 22 => 25 | 23 => 35 | 25 => 103 | 3 => 3 | 0 => 0 | 4 => 4 | n => n, fun | n => n⟩
theorem Tryz.indexOp : Go.Proofs.SlLaysH0.n6 Tryz.prog Tryz.indexOp_ren := {
  mixed := by kernel_rfl
  f6 := ⟨Tryz.f109.name, by decide, Tryz.func109.trans (congrArg some (by kernel_rfl))⟩
  t0 := Tryz.underlying0
  a0 := Tryz.isAgg0
  z0 := Tryz.sizeOf0
  v0 := Tryz.zeroValue0
  t3 := Tryz.underlying3
  a3 := Tryz.isAgg3
  z3 := Tryz.sizeOf3
  v3 := Tryz.zeroValue3
  t4 := Tryz.underlying4
  a4 := Tryz.isAgg4
  z4 := Tryz.sizeOf4
  v4 := Tryz.zeroValue4
  t22 := Tryz.underlying25
  a22 := Tryz.isAgg25
  z22 := Tryz.sizeOf25
  v22 := Tryz.zeroValue25
  t25 := Tryz.underlying103
  a25 := Tryz.isAgg103
  z25 := Tryz.sizeOf103
  v25 := Tryz.zeroValue103 }
def Tryz.cloneOp_ren : Go.Shelf.Ren := ⟨fun | 41 => 74 | n => n, fun | 22 => 25 | 23 => 35 | 4 => 4 | n => n, fun | n => n⟩
theorem Tryz.cloneOp : Go.Proofs.SlLaysE0.n41 Tryz.prog Tryz.cloneOp_ren := {
  mixed := by kernel_rfl
  f41 := ⟨Tryz.f74.name, by decide, Tryz.func74.trans (congrArg some (by kernel_rfl))⟩
  t4 := Tryz.underlying4
  a4 := Tryz.isAgg4
  z4 := Tryz.sizeOf4
  v4 := Tryz.zeroValue4
  t22 := Tryz.underlying25
  a22 := Tryz.isAgg25
  z22 := Tryz.sizeOf25
  v22 := Tryz.zeroValue25 }
def Tryz.cloneClk_ren : Go.Shelf.Ren := ⟨fun | 41 => 120 | n => n, fun | 22 => 54 | 23 => 53 | 4 => 4 | n => n, fun | n => n⟩
theorem Tryz.cloneClk : Go.Proofs.SlLaysE0.n41 Tryz.prog Tryz.cloneClk_ren := {
  mixed := by kernel_rfl
  f41 := ⟨Tryz.f120.name, by decide, Tryz.func120.trans (congrArg some (by kernel_rfl))⟩
  t4 := Tryz.underlying4
  a4 := Tryz.isAgg4
  z4 := Tryz.sizeOf4
  v4 := Tryz.zeroValue4
  t22 := Tryz.underlying54
  a22 := Tryz.isAgg54
  z22 := Tryz.sizeOf54
  v22 := Tryz.zeroValue54 }
def Tryz.insOp_ren : Go.Shelf.Ren := ⟨fun | 20 => 134 | n => n, fun | 24 => 35 | 22 => 25 | 3 => 3 | 25 => 105 | 4 => 4 | 0 => 0 | n => n, fun | n => n⟩
theorem Tryz.insOp : Go.Proofs.SlLaysF0.n20 Tryz.prog Tryz.insOp_ren := {
  mixed := by kernel_rfl
  f20 := ⟨Tryz.f134.name, by decide, Tryz.func134.trans (congrArg some (by kernel_rfl))⟩
  t0 := Tryz.underlying0
  a0 := Tryz.isAgg0
  z0 := Tryz.sizeOf0
  v0 := Tryz.zeroValue0
  t3 := Tryz.underlying3
  a3 := Tryz.isAgg3
  z3 := Tryz.sizeOf3
  v3 := Tryz.zeroValue3
  t4 := Tryz.underlying4
  a4 := Tryz.isAgg4
  z4 := Tryz.sizeOf4
  v4 := Tryz.zeroValue4
  t22 := Tryz.underlying25
  a22 := Tryz.isAgg25
  z22 := Tryz.sizeOf25
  v22 := Tryz.zeroValue25
  t25 := Tryz.underlying105
  a25 := Tryz.isAgg105
  z25 := Tryz.sizeOf105
  v25 := Tryz.zeroValue105 }
def Tryz.insClk_ren : Go.Shelf.Ren := ⟨fun | 20 => 171 | n => n, fun | 24 => 53 | 22 => 54 | 3 => 3 | 25 => 146 | 4 => 4 | 0 => 0 | n => n, fun | n => n⟩
theorem Tryz.insClk : Go.Proofs.SlLaysF0.n20 Tryz.prog Tryz.insClk_ren := {
  mixed := by kernel_rfl
  f20 := ⟨Tryz.f171.name, by decide, Tryz.func171.trans (congrArg some (by kernel_rfl))⟩
  t0 := Tryz.underlying0
  a0 := Tryz.isAgg0
  z0 := Tryz.sizeOf0
  v0 := Tryz.zeroValue0
  t3 := Tryz.underlying3
  a3 := Tryz.isAgg3
  z3 := Tryz.sizeOf3
  v3 := Tryz.zeroValue3
  t4 := Tryz.underlying4
  a4 := Tryz.isAgg4
  z4 := Tryz.sizeOf4
  v4 := Tryz.zeroValue4
  t22 := Tryz.underlying54
  a22 := Tryz.isAgg54
  z22 := Tryz.sizeOf54
  v22 := Tryz.zeroValue54
  t25 := Tryz.underlying146
  a25 := Tryz.isAgg146
  z25 := Tryz.sizeOf146
  v25 := Tryz.zeroValue146 }
def Tryz.runeCount_ren : Go.Shelf.Ren := ⟨fun | 195 => 108 | n => n, fun | 9 => 9 | 3 => 3 | 0 => 0 | 4 => 4 | n => n, fun | n => n⟩
theorem Tryz.runeCount : Go.Proofs.Lays.n195 Tryz.prog Tryz.runeCount_ren := {
  mixed := by kernel_rfl
  f195 := Tryz.func108.trans (congrArg some (by kernel_rfl))
  t0 := Tryz.underlying0
  a0 := Tryz.isAgg0
  z0 := Tryz.sizeOf0
  v0 := Tryz.zeroValue0
  t3 := Tryz.underlying3
  a3 := Tryz.isAgg3
  z3 := Tryz.sizeOf3
  v3 := Tryz.zeroValue3
  t4 := Tryz.underlying4
  a4 := Tryz.isAgg4
  z4 := Tryz.sizeOf4
  v4 := Tryz.zeroValue4
  t9 := Tryz.underlying9
  a9 := Tryz.isAgg9
  z9 := Tryz.sizeOf9
  v9 := Tryz.zeroValue9 }
def Tryz.valid_ren : Go.Shelf.Ren := ⟨fun | 196 => 112 | 259 => 139 | n => n, fun | 9 => 9 | 4 => 4 | 3 => 3 | 5 => 5 | 12 => 12 | 119 => 172 | 0 => 0 | 46 => 136 | 139 => 175 | 138 => 174 | 53 => 26 | n => n, fun | 3 => 1 | 4 => 2 | n => n⟩
theorem Tryz.valid : Go.Proofs.Lays.n196 Tryz.prog Tryz.valid_ren := {
  mixed := by kernel_rfl
  f196 := Tryz.func112.trans (congrArg some (by kernel_rfl))
  f259 := Tryz.func139.trans (congrArg some (by kernel_rfl))
  t0 := Tryz.underlying0
  a0 := Tryz.isAgg0
  z0 := Tryz.sizeOf0
  v0 := Tryz.zeroValue0
  t3 := Tryz.underlying3
  a3 := Tryz.isAgg3
  z3 := Tryz.sizeOf3
  v3 := Tryz.zeroValue3
  t4 := Tryz.underlying4
  a4 := Tryz.isAgg4
  z4 := Tryz.sizeOf4
  v4 := Tryz.zeroValue4
  t5 := Tryz.underlying5
  a5 := Tryz.isAgg5
  z5 := Tryz.sizeOf5
  v5 := Tryz.zeroValue5
  t9 := Tryz.underlying9
  a9 := Tryz.isAgg9
  z9 := Tryz.sizeOf9
  v9 := Tryz.zeroValue9
  t12 := Tryz.underlying12
  a12 := Tryz.isAgg12
  z12 := Tryz.sizeOf12
  v12 := Tryz.zeroValue12
  t46 := Tryz.underlying136
  a46 := Tryz.isAgg136
  z46 := Tryz.sizeOf136
  v46 := Tryz.zeroValue136
  t53 := Tryz.underlying26
  a53 := Tryz.isAgg26
  z53 := Tryz.sizeOf26
  v53 := Tryz.zeroValue26
  t119 := Tryz.underlying172
  a119 := Tryz.isAgg172
  z119 := Tryz.sizeOf172
  t138 := Tryz.underlying174
  a138 := Tryz.isAgg174
  z138 := Tryz.sizeOf174
  v138 := Tryz.zeroValue174
  t139 := Tryz.underlying175
  a139 := Tryz.isAgg175
  z139 := Tryz.sizeOf175
  v139 := Tryz.zeroValue175
  g3 := by kernel_rfl
  g4 := by kernel_rfl }
def Tryz.strCmp_ren : Go.Shelf.Ren := ⟨fun | 106 => 144 | 213 => 167 | 265 => 178 | n => n, fun | 9 => 9 | 3 => 3 | n => n, fun | n => n⟩
theorem Tryz.strCmp : Go.Proofs.Lays.n106 Tryz.prog Tryz.strCmp_ren := {
  mixed := by kernel_rfl
  f106 := Tryz.func144.trans (congrArg some (by kernel_rfl))
  f213 := Tryz.func167.trans (congrArg some (by kernel_rfl))
  f265 := Tryz.func178.trans (congrArg some (by kernel_rfl))
  t3 := Tryz.underlying3
  a3 := Tryz.isAgg3
  z3 := Tryz.sizeOf3
  v3 := Tryz.zeroValue3
  t9 := Tryz.underlying9
  a9 := Tryz.isAgg9
  z9 := Tryz.sizeOf9
  v9 := Tryz.zeroValue9 }
def Tryz.join_ren : Go.Shelf.Ren := ⟨fun | 156 => 111 | 165 => 136 | 166 => 137 | 169 => 138 | 240 => 160 | 241 => 161 | 276 => 175 | 277 => 176 | n => n, fun | 31 => 22 | 9 => 9 | 3 => 3 | 4 => 4 | 0 => 0 | 20 => 20 | 72 => 164 | 76 => 168 | 70 => 161 | 37 => 162 | 75 => 167 | 127 => 191 | 164 => 203 | 5 => 5 | 80 => 170 | n => n, fun | n => n⟩
theorem Tryz.join : Go.Proofs.Lays.n156 Tryz.prog Tryz.join_ren := {
  mixed := by kernel_rfl
  f156 := Tryz.func111.trans (congrArg some (by kernel_rfl))
  f165 := Tryz.func136.trans (congrArg some (by kernel_rfl))
  f166 := Tryz.func137.trans (congrArg some (by kernel_rfl))
  f169 := Tryz.func138.trans (congrArg some (by kernel_rfl))
  f240 := Tryz.func160.trans (congrArg some (by kernel_rfl))
  f241 := Tryz.func161.trans (congrArg some (by kernel_rfl))
  f276 := Tryz.func175.trans (congrArg some (by kernel_rfl))
  f277 := Tryz.func176.trans (congrArg some (by kernel_rfl))
  t0 := Tryz.underlying0
  a0 := Tryz.isAgg0
  z0 := Tryz.sizeOf0
  v0 := Tryz.zeroValue0
  t3 := Tryz.underlying3
  a3 := Tryz.isAgg3
  z3 := Tryz.sizeOf3
  v3 := Tryz.zeroValue3
  t4 := Tryz.underlying4
  a4 := Tryz.isAgg4
  z4 := Tryz.sizeOf4
  v4 := Tryz.zeroValue4
  t9 := Tryz.underlying9
  a9 := Tryz.isAgg9
  z9 := Tryz.sizeOf9
  v9 := Tryz.zeroValue9
  t20 := Tryz.underlying20
  a20 := Tryz.isAgg20
  z20 := Tryz.sizeOf20
  v20 := Tryz.zeroValue20
  t31 := Tryz.underlying22
  a31 := Tryz.isAgg22
  z31 := Tryz.sizeOf22
  v31 := Tryz.zeroValue22
  t37 := Tryz.underlying162
  a37 := Tryz.isAgg162
  z37 := Tryz.sizeOf162
  v37 := Tryz.zeroValue162
  t70 := Tryz.underlying161
  a70 := Tryz.isAgg161
  z70 := Tryz.sizeOf161
  v70 := Tryz.zeroValue161
  t72 := Tryz.underlying164
  a72 := Tryz.isAgg164
  z72 := Tryz.sizeOf164
  v72 := Tryz.zeroValue164
  t75 := Tryz.underlying167
  a75 := Tryz.isAgg167
  z75 := Tryz.sizeOf167
  v75 := Tryz.zeroValue167
  t76 := Tryz.underlying168
  a76 := Tryz.isAgg168
  z76 := Tryz.sizeOf168
  v76 := Tryz.zeroValue168
  t127 := Tryz.underlying191
  a127 := Tryz.isAgg191
  z127 := Tryz.sizeOf191
  v127 := Tryz.zeroValue191
  t164 := Tryz.underlying203
  a164 := Tryz.isAgg203
  z164 := Tryz.sizeOf203
  v164 := Tryz.zeroValue203 }
end Go.Proofs
/- Plain law: ranges cleaned (the right ones, in order, overlapping or touching ones joined) name the same ids. -/
namespace Go.Proofs.YtaeebgljcdfolaaGreatDoor

def hasRngs (l : List QRng) (i : QId) : Bool := i.rightB && l.any fun r => r.hasB i
/-- one more range behind the joined ones. -/
def mergeRng (out : List QRng) (r : QRng) : List QRng :=
  match out.getLast? with
  | some x => if x.c = r.c ∧ r.a ≤ x.b then out.dropLast ++ [⟨x.c, x.a, max x.b r.b⟩] else out ++ [r]
  | none => [r]
def joinRngs (l : List QRng) : List QRng := l.foldl mergeRng []

def anyHas (l : List QRng) (i : QId) : Bool := l.any fun r => r.hasB i

/-- the last one may be joined with what comes behind it. -/
theorem hasB_join {x r : QRng} {i : QId} (hx : x.rightB = true) (hr : r.rightB = true) (hc : x.c = r.c) (ha : x.a ≤ r.a) (hb : r.a ≤ x.b) :
    (⟨x.c, x.a, max x.b r.b⟩ : QRng).rightB = true ∧ (⟨x.c, x.a, max x.b r.b⟩ : QRng).hasB i = (x.hasB i || r.hasB i) := by
  have hR : (⟨x.c, x.a, max x.b r.b⟩ : QRng).rightB = true := by
    simp [QRng.rightB, numB] at *; omega
  refine ⟨hR, ?_⟩
  unfold QRng.hasB
  rw [hR, hx, hr, Bool.eq_iff_iff]
  simp
  omega

/-- what is kept while the joined ones grow: all right, the last one's beginning no later than what is still to come of its client. -/
def Joined (out rest : List QRng) : Prop := (∀ r ∈ out, r.rightB = true) ∧ (∀ r ∈ rest, r.rightB = true) ∧ ∀ x, out.getLast? = some x → ∀ r ∈ rest, x.c = r.c → x.a ≤ r.a

theorem merge_step {out : List QRng} {r : QRng} {rest : List QRng} {i : QId} (hJ : Joined out (r :: rest)) (hs : ∀ y ∈ rest, r.c = y.c → r.a ≤ y.a) :
    Joined (mergeRng out r) rest ∧ anyHas (mergeRng out r) i = (anyHas out i || r.hasB i) := by
  obtain ⟨h1, h2, h3⟩ := hJ
  have hr := h2 r (by simp)
  unfold mergeRng
  cases hl : out.getLast? with
  | none =>
    have : out = [] := by simpa using hl
    subst this
    refine ⟨⟨by simpa using hr, fun y hy => h2 y (by simp [hy]), ?_⟩, by simp [anyHas]⟩
    intro x hx y hy hc
    obtain rfl : r = x := by simpa using hx
    exact hs y hy hc
  | some x =>
    have ho : out = out.dropLast ++ [x] := by
      obtain ⟨ys, hys⟩ := List.getLast?_eq_some_iff.1 hl
      rw [hys]; simp
    dsimp only
    split
    · rename_i hc
      have hx : x.rightB = true := h1 x (List.mem_of_getLast? hl)
      have hj := hasB_join (i := i) hx hr hc.1 (h3 x hl r (by simp) hc.1) hc.2
      refine ⟨⟨?_, fun y hy => h2 y (by simp [hy]), ?_⟩, ?_⟩
      · intro y hy
        rcases List.mem_append.1 hy with hy | hy
        · exact h1 y ((List.dropLast_sublist out).subset hy)
        · obtain rfl : y = _ := by simpa using hy
          exact hj.1
      · intro z hz y hy hcc
        obtain rfl : _ = z := by simpa using hz
        exact h3 x hl y (by simp [hy]) hcc
      · rw [show anyHas out i = anyHas (out.dropLast ++ [x]) i by rw [← ho]]
        simp [anyHas, hj.2, Bool.or_assoc]
    · refine ⟨⟨?_, fun y hy => h2 y (by simp [hy]), ?_⟩, ?_⟩
      · intro y hy
        rcases List.mem_append.1 hy with hy | hy
        · exact h1 y hy
        · obtain rfl : y = _ := by simpa using hy
          exact hr
      · intro z hz y hy hcc
        obtain rfl : r = z := by simpa using hz
        exact hs y hy hcc
      · simp [anyHas]

theorem join_from {i : QId} : ∀ (l out : List QRng), Joined out l → l.Pairwise (fun x y => x.c = y.c → x.a ≤ y.a) → anyHas (l.foldl mergeRng out) i = (anyHas out i || anyHas l i)
  | [], out, _, _ => by simp [anyHas]
  | r :: l, out, hJ, hp => by
    obtain ⟨hp1, hp2⟩ := List.pairwise_cons.1 hp
    obtain ⟨hJ', he⟩ := merge_step (i := i) hJ hp1
    rw [List.foldl_cons, join_from l _ hJ' hp2, he, Bool.or_assoc]
    simp [anyHas]

theorem mergeRng_length (out : List QRng) (r : QRng) : (mergeRng out r).length ≤ out.length + 1 := by
  unfold mergeRng
  split
  · split
    · simp
    · simp
  · simp
theorem merge_length : ∀ (l out : List QRng), (l.foldl mergeRng out).length ≤ out.length + l.length
  | [], out => by simp
  | r :: l, out => by
    rw [List.foldl_cons, List.length_cons]
    have := merge_length l (mergeRng out r)
    have := mergeRng_length out r
    omega
theorem joinRngs_length (l : List QRng) : (joinRngs l).length ≤ l.length := by
  have := merge_length l []
  simpa [joinRngs] using this

theorem anyHas_right (l : List QRng) (i : QId) : anyHas (l.filter QRng.rightB) i = anyHas l i := by
  unfold anyHas
  rw [List.any_filter]
  congr 1
  funext r
  unfold QRng.hasB
  cases r.rightB <;> simp

theorem anyHas_perm {l l' : List QRng} (h : l.Perm l') (i : QId) : anyHas l i = anyHas l' i := by
  unfold anyHas
  rw [Bool.eq_iff_iff, List.any_eq_true, List.any_eq_true]
  exact ⟨fun ⟨x, hx, hh⟩ => ⟨x, h.mem_iff.1 hx, hh⟩, fun ⟨x, hx, hh⟩ => ⟨x, h.mem_iff.2 hx, hh⟩⟩

theorem cmpU_lt {x y : Int} : cmpU x y < 0 ↔ x < y := by unfold cmpU; split <;> (try split) <;> omega
theorem cmpU_zero {x y : Int} : cmpU x y = 0 ↔ x = y := by unfold cmpU; split <;> (try split) <;> omega
theorem rngCmp_lt {x y : QRng} : x.cmp y < 0 ↔ x.c < y.c ∨ (x.c = y.c ∧ x.a < y.a) := by
  unfold QRng.cmp orI
  by_cases h : x.c = y.c
  · have : cmpU y.c y.c = 0 := cmpU_zero.2 rfl
    simp [h, this, cmpU_lt]
  · have h0 : cmpU x.c y.c ≠ 0 := fun e => h (cmpU_zero.1 e)
    simp [h0, cmpU_lt, h]

/-- in the order of clients and beginnings. -/
def SortedRngs (d : List QRng) : Prop := d.Pairwise (fun x y => ¬ y.cmp x < 0)

/-- sorted right ranges, joined, name the ids of the list. -/
theorem join_has {l d : List QRng} (hp : d.Perm (l.filter QRng.rightB)) (hs : SortedRngs d) (i : QId) : hasRngs (joinRngs d) i = hasRngs l i := by
  have hr : ∀ r ∈ d, r.rightB = true := fun r hr => (List.mem_filter.1 (hp.mem_iff.1 hr)).2
  have hs' : d.Pairwise (fun x y => x.c = y.c → x.a ≤ y.a) := hs.imp fun {x y} h hc => by
    rw [rngCmp_lt] at h
    omega
  have := join_from (i := i) d [] ⟨by simp, hr, by simp⟩ hs'
  have e : anyHas (joinRngs d) i = anyHas l i := by
    rw [joinRngs, this, anyHas_perm hp, anyHas_right]; simp [anyHas]
  unfold hasRngs
  exact congrArg (i.rightB && ·) e
end Go.Proofs.YtaeebgljcdfolaaGreatDoor
/- The library's sort at ranges, on an owned row. -/
namespace Go.Proofs.YtaeebgljcdfolaaGreatDoor
open Go.RowKit Go.Shelf Go.Sort

theorem rng_swo : SWO (ltOf QRng.cmp) where
  irrefl x := by unfold ltOf; simp [rngCmp_lt]
  trans x y z h1 h2 := by unfold ltOf at *; simp [rngCmp_lt] at *; omega
  ntrans x y z h1 h2 := by unfold ltOf at *; simp only [decide_eq_false_iff_not, rngCmp_lt] at *; omega

theorem rng_cmpLays (blk off size : Nat) (w : World) : CmpLays Tryz.prog 94 #[] encRng 3 QRng.cmp blk off size w :=
  fun _ _ _ _ x y => rngCmp_any x y _

theorem encRng_one (x : QRng) : ∀ v ∈ encRng x, v.oneCell' = true := by
  intro v hv; simp [encRng] at hv; rcases hv with rfl | rfl | rfl <;> rfl

theorem sortRng_any (base : Nat) (v : Value) (l : List QRng) (W : World) (h : OwnAt base 72 3 encRng W v l) (hl : l.length * 24 ≤ 140737488355328) :
    Calls Tryz.prog 93 #[v, .func (.func 94) #[] #[]] W fun e w' => e = .returned (.tuple #[]) ∧ ∃ d : List QRng, d.Perm l ∧ SortedRngs d ∧ OwnAt base 72 3 encRng w' v d ∧ W.grownBy w' v.ownBlock := by
  have h' := h
  rcases h'.2 with ⟨rfl, h0⟩ | ⟨g, cap, cur, rfl, _⟩
  · have hl0 : l = [] := List.eq_nil_of_length_eq_zero h0
    subst hl0
    refine (AnyF.slices_SortFunc_none { Tryz.sortRng with } none 0 (.func (.func 94) #[] #[]) W).mono ?_
    rintro e w' ⟨he, rfl⟩
    exact ⟨he, [], List.Perm.refl _, (List.Pairwise.nil : SortedRngs []), h, ⟨rfl, rfl, rfl, Nat.le_refl _, fun _ _ _ => rfl⟩⟩
  · obtain ⟨_, _, hg, hb, hH⟩ := OwnAt.holds (k := 3) (enc := encRng) (fun _ => rfl) h
    have eg : ∀ args w, (callFunc 94 args).run Tryz.prog w = .ok (.enter 94 args) w := enters_of Tryz.func94 (by kernel_rfl) rfl
    have hcon := AnyQ.slices_SortFunc Tryz.sortRng 3 (fun w => by kernel_rfl) (fun w => by kernel_rfl) encRng (fun _ => rfl) encRng_one QRng.cmp rng_swo 94 #[] g 0 cap l.toArray W eg (rng_cmpLays g 0 _ W) hH hg (by simp; omega)
    refine hcon.mono ?_
    rintro e w' ⟨he, d', n, os, hp, hs, rfl⟩
    have hsz : d'.size = l.length := by simpa using hp.1
    obtain ⟨h1, h2⟩ := OwnAt.sorted (k := 3) (enc := encRng) (m := n) (os := os) (fun _ => rfl) h hsz
    refine ⟨he, d'.toList, ?_, ?_, h1, h2⟩
    · have := hp.2.2
      rw [show l.toArray.size = d'.size by simp [hsz], Array.extract_size] at this
      simp at this
      rwa [List.take_of_length_le (by omega)] at this
    · unfold SortedRngs
      rw [List.pairwise_iff_getElem]
      intro i j hi hj hij
      have := hs i j (Nat.zero_le _) hij (by simpa [← hsz] using hj)
      unfold ltOf at this
      simp at hi hj
      simpa [hi, hj] using this
end Go.Proofs.YtaeebgljcdfolaaGreatDoor
