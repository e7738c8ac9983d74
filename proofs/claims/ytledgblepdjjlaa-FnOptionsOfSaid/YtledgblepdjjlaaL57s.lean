/-
  The library's sort at this program: what of it the shelf's law wants (laid by the kit's tool for this seat alone: its numbers are seat B's).
-/
import Derived.Shelf.Sort.Plain
import Derived.Test.YtledgblepdjjlaaProg
namespace Go.Proofs.Ytledgblepdjjlaa
set_option linter.unusedVariables false
set_option linter.unusedSimpArgs false
open Go Go.Proofs Go.Shelf
def lays189_ren : Go.Shelf.Ren := ⟨fun | 189 => 110 | 125 => 133 | 257 => 132 | 128 => 149 | 129 => 150 | 294 => 140 | 295 => 141 | 296 => 142 | 297 => 143 | 298 => 144 | 299 => 145 | 216 => 146 | 300 => 147 | 301 => 148 | 328 => 152 | 329 => 153 | 330 => 154 | 331 => 155 | 332 => 156 | 215 => 157 | 343 => 158 | n => n, fun | 28 => 28 | 3 => 3 | 46 => 130 | 0 => 0 | 51 => 143 | 53 => 145 | 4 => 4 | 183 => 137 | 182 => 136 | 131 => 55 | 5 => 5 | 9 => 9 | 218 => 147 | 222 => 151 | 228 => 153 | 229 => 126 | n => n, fun | n => n⟩
theorem lays189 : Lays.n189 Try.prog lays189_ren := {
  mixed := by kernel_rfl
  f125 := Try.func133.trans (congrArg some (by kernel_rfl))
  f128 := Try.func149.trans (congrArg some (by kernel_rfl))
  f129 := Try.func150.trans (congrArg some (by kernel_rfl))
  f189 := Try.func110.trans (congrArg some (by kernel_rfl))
  f215 := Try.func157.trans (congrArg some (by kernel_rfl))
  f216 := Try.func146.trans (congrArg some (by kernel_rfl))
  f257 := Try.func132.trans (congrArg some (by kernel_rfl))
  f294 := Try.func140.trans (congrArg some (by kernel_rfl))
  f295 := Try.func141.trans (congrArg some (by kernel_rfl))
  f296 := Try.func142.trans (congrArg some (by kernel_rfl))
  f297 := Try.func143.trans (congrArg some (by kernel_rfl))
  f298 := Try.func144.trans (congrArg some (by kernel_rfl))
  f299 := Try.func145.trans (congrArg some (by kernel_rfl))
  f300 := Try.func147.trans (congrArg some (by kernel_rfl))
  f301 := Try.func148.trans (congrArg some (by kernel_rfl))
  f328 := Try.func152.trans (congrArg some (by kernel_rfl))
  f329 := Try.func153.trans (congrArg some (by kernel_rfl))
  f330 := Try.func154.trans (congrArg some (by kernel_rfl))
  f331 := Try.func155.trans (congrArg some (by kernel_rfl))
  f332 := Try.func156.trans (congrArg some (by kernel_rfl))
  f343 := Try.func158.trans (congrArg some (by kernel_rfl))
  t0 := Try.underlying0
  a0 := Try.isAgg0
  z0 := Try.sizeOf0
  v0 := Try.zeroValue0
  t3 := Try.underlying3
  a3 := Try.isAgg3
  z3 := Try.sizeOf3
  v3 := Try.zeroValue3
  t4 := Try.underlying4
  a4 := Try.isAgg4
  z4 := Try.sizeOf4
  v4 := Try.zeroValue4
  t5 := Try.underlying5
  a5 := Try.isAgg5
  z5 := Try.sizeOf5
  v5 := Try.zeroValue5
  t9 := Try.underlying9
  a9 := Try.isAgg9
  z9 := Try.sizeOf9
  v9 := Try.zeroValue9
  t28 := Try.underlying28
  a28 := Try.isAgg28
  z28 := Try.sizeOf28
  v28 := Try.zeroValue28
  t46 := Try.underlying130
  a46 := Try.isAgg130
  z46 := Try.sizeOf130
  v46 := Try.zeroValue130
  t51 := Try.underlying143
  a51 := Try.isAgg143
  z51 := Try.sizeOf143
  v51 := Try.zeroValue143
  t53 := Try.underlying145
  a53 := Try.isAgg145
  z53 := Try.sizeOf145
  v53 := Try.zeroValue145
  t131 := Try.underlying55
  a131 := Try.isAgg55
  z131 := Try.sizeOf55
  v131 := Try.zeroValue55
  t182 := Try.underlying136
  a182 := Try.isAgg136
  z182 := Try.sizeOf136
  v182 := Try.zeroValue136
  t183 := Try.underlying137
  a183 := Try.isAgg137
  z183 := Try.sizeOf137
  v183 := Try.zeroValue137
  t218 := Try.underlying147
  a218 := Try.isAgg147
  z218 := Try.sizeOf147
  v218 := Try.zeroValue147
  t222 := Try.underlying151
  a222 := Try.isAgg151
  z222 := Try.sizeOf151
  v222 := Try.zeroValue151
  t228 := Try.underlying153
  a228 := Try.isAgg153
  z228 := Try.sizeOf153
  v228 := Try.zeroValue153
  t229 := Try.underlying126
  a229 := Try.isAgg126
  z229 := Try.sizeOf126
  v229 := Try.zeroValue126 }
end Go.Proofs.Ytledgblepdjjlaa
