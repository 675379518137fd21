/- The kit's contracts of sorted keys, laid at this program: the kit's command printed this text. No statement of the seat is proved here. -/
import Derived.Shelf.SlIterI.Nil
import Derived.Shelf.SortM.Plain
import Derived.Shelf.SortM.SortNone
import Derived.Ground.GgzProg
import Derived.Ground.SlgmProg
import Derived.Shelf.SlGeneric
import Derived.Test.YtkjghgndmpbfiaaGreatRows
namespace Go.Proofs.YtkjghgndmpbfiaaGreat
set_option linter.unusedVariables false
set_option linter.unusedSectionVars false
set_option linter.unusedSimpArgs false
open Go.Shelf
def keysA_ren : Go.Shelf.Ren := ⟨fun | 7 => 23 | 10 => 45 | n => n, fun | 23 => 64 | 26 => 3 | 3 => 3 | 28 => 71 | 0 => 0 | 27 => 70 | 33 => 84 | 4 => 4 | n => n, fun | n => n⟩
theorem keysA : Go.Proofs.SlLaysZI.n7 Tryz.prog keysA_ren := {
 mixed := by kernel_rfl
 f7 := ⟨Tryz.f23.name, by decide, Tryz.func23.trans (congrArg some (by kernel_rfl))⟩
 f10 := ⟨Tryz.f45.name, by decide, Tryz.func45.trans (congrArg some (by kernel_rfl))⟩
 t0 := Tryz.underlying0
 a0 := Tryz.isAgg0
 z0 := Tryz.sizeOf0
 v0 := Tryz.zeroValue0
 t4 := Tryz.underlying4
 a4 := Tryz.isAgg4
 z4 := Tryz.sizeOf4
 v4 := Tryz.zeroValue4
 t23 := Tryz.underlying64
 a23 := Tryz.isAgg64
 z23 := Tryz.sizeOf64
 v23 := Tryz.zeroValue64
 t26 := Tryz.underlying3
 a26 := Tryz.isAgg3
 z26 := Tryz.sizeOf3
 v26 := Tryz.zeroValue3
 t27 := Tryz.underlying70
 a27 := Tryz.isAgg70
 z27 := Tryz.sizeOf70
 v27 := Tryz.zeroValue70
 t28 := Tryz.underlying71
 a28 := Tryz.isAgg71
 z28 := Tryz.sizeOf71
 v28 := Tryz.zeroValue71
 t33 := Tryz.underlying84
 a33 := Tryz.isAgg84
 z33 := Tryz.sizeOf84
 v33 := Tryz.zeroValue84 }
def sortedA_ren : Go.Shelf.Ren := ⟨fun | 6 => 22 | 8 => 43 | 9 => 44 | 11 => 59 | 13 => 61 | 12 => 60 | 23 => 81 | 24 => 82 | 14 => 72 | 15 => 73 | 16 => 74 | 17 => 75 | 18 => 76 | 19 => 77 | 20 => 78 | 21 => 79 | 22 => 80 | 25 => 90 | 26 => 91 | 27 => 92 | 28 => 93 | 29 => 94 | 30 => 95 | 31 => 102 | n => n, fun | 26 => 3 | 28 => 71 | 24 => 40 | 0 => 0 | 3 => 3 | 37 => 117 | 48 => 29 | 50 => 140 | 4 => 4 | 40 => 131 | 39 => 130 | 45 => 136 | 5 => 5 | 9 => 9 | 51 => 151 | 55 => 155 | 57 => 164 | 58 => 59 | 33 => 84 | n => n, fun | n => n⟩
theorem sortedA : Go.Proofs.SlLaysZI.n6 Tryz.prog sortedA_ren := {
 mixed := by kernel_rfl
 f6 := ⟨Tryz.f22.name, by decide, Tryz.func22.trans (congrArg some (by kernel_rfl))⟩
 f8 := ⟨Tryz.f43.name, by decide, Tryz.func43.trans (congrArg some (by kernel_rfl))⟩
 f11 := ⟨Tryz.f59.name, by decide, Tryz.func59.trans (congrArg some (by kernel_rfl))⟩
 t0 := Tryz.underlying0
 a0 := Tryz.isAgg0
 z0 := Tryz.sizeOf0
 v0 := Tryz.zeroValue0
 t24 := Tryz.underlying40
 a24 := Tryz.isAgg40
 z24 := Tryz.sizeOf40
 v24 := Tryz.zeroValue40
 t26 := Tryz.underlying3
 a26 := Tryz.isAgg3
 z26 := Tryz.sizeOf3
 v26 := Tryz.zeroValue3
 t28 := Tryz.underlying71
 a28 := Tryz.isAgg71
 z28 := Tryz.sizeOf71
 v28 := Tryz.zeroValue71
 i26 := by kernel_rfl }
def sortA_ren : Go.Shelf.Ren := ⟨fun | 5 => 44 | 8 => 61 | 7 => 60 | 19 => 81 | 20 => 82 | 10 => 72 | 11 => 73 | 12 => 74 | 13 => 75 | 14 => 76 | 15 => 77 | 16 => 78 | 17 => 79 | 18 => 80 | 30 => 90 | 31 => 91 | 32 => 92 | 33 => 93 | 34 => 94 | 35 => 95 | 40 => 102 | n => n, fun | 23 => 40 | 25 => 3 | 3 => 3 | 32 => 117 | 22 => 40 | 0 => 0 | 44 => 29 | 46 => 140 | 4 => 4 | 36 => 131 | 35 => 130 | 41 => 136 | 5 => 5 | 9 => 9 | 53 => 151 | 57 => 155 | 63 => 164 | 64 => 59 | n => n, fun | n => n⟩
theorem sortA : Go.Proofs.SlLaysM.n5 Tryz.prog sortA_ren := {
 mixed := by kernel_rfl
 f5 := ⟨Tryz.f44.name, by decide, Tryz.func44.trans (congrArg some (by kernel_rfl))⟩
 f7 := ⟨Tryz.f60.name, by decide, Tryz.func60.trans (congrArg some (by kernel_rfl))⟩
 f8 := Tryz.func61.trans (congrArg some (by kernel_rfl))
 f10 := ⟨Tryz.f72.name, by decide, Tryz.func72.trans (congrArg some (by kernel_rfl))⟩
 f11 := ⟨Tryz.f73.name, by decide, Tryz.func73.trans (congrArg some (by kernel_rfl))⟩
 f12 := ⟨Tryz.f74.name, by decide, Tryz.func74.trans (congrArg some (by kernel_rfl))⟩
 f13 := ⟨Tryz.f75.name, by decide, Tryz.func75.trans (congrArg some (by kernel_rfl))⟩
 f14 := ⟨Tryz.f76.name, by decide, Tryz.func76.trans (congrArg some (by kernel_rfl))⟩
 f15 := ⟨Tryz.f77.name, by decide, Tryz.func77.trans (congrArg some (by kernel_rfl))⟩
 f16 := ⟨Tryz.f78.name, by decide, Tryz.func78.trans (congrArg some (by kernel_rfl))⟩
 f17 := ⟨Tryz.f79.name, by decide, Tryz.func79.trans (congrArg some (by kernel_rfl))⟩
 f18 := ⟨Tryz.f80.name, by decide, Tryz.func80.trans (congrArg some (by kernel_rfl))⟩
 f19 := Tryz.func81.trans (congrArg some (by kernel_rfl))
 f20 := Tryz.func82.trans (congrArg some (by kernel_rfl))
 f30 := ⟨Tryz.f90.name, by decide, Tryz.func90.trans (congrArg some (by kernel_rfl))⟩
 f31 := Tryz.func91.trans (congrArg some (by kernel_rfl))
 f32 := Tryz.func92.trans (congrArg some (by kernel_rfl))
 f33 := ⟨Tryz.f93.name, by decide, Tryz.func93.trans (congrArg some (by kernel_rfl))⟩
 f34 := ⟨Tryz.f94.name, by decide, Tryz.func94.trans (congrArg some (by kernel_rfl))⟩
 f35 := ⟨Tryz.f95.name, by decide, Tryz.func95.trans (congrArg some (by kernel_rfl))⟩
 f40 := ⟨Tryz.f102.name, by decide, Tryz.func102.trans (congrArg some (by kernel_rfl))⟩
 t0 := Tryz.underlying0
 a0 := Tryz.isAgg0
 z0 := Tryz.sizeOf0
 v0 := Tryz.zeroValue0
 t3 := Tryz.underlying3
 a3 := Tryz.isAgg3
 z3 := Tryz.sizeOf3
 v3 := Tryz.zeroValue3
 t4 := Tryz.underlying4
 a4 := Tryz.isAgg4
 z4 := Tryz.sizeOf4
 v4 := Tryz.zeroValue4
 t5 := Tryz.underlying5
 a5 := Tryz.isAgg5
 z5 := Tryz.sizeOf5
 v5 := Tryz.zeroValue5
 t9 := Tryz.underlying9
 a9 := Tryz.isAgg9
 z9 := Tryz.sizeOf9
 v9 := Tryz.zeroValue9
 t22 := Tryz.underlying40
 a22 := Tryz.isAgg40
 z22 := Tryz.sizeOf40
 v22 := Tryz.zeroValue40
 t23 := Tryz.underlying40
 a23 := Tryz.isAgg40
 z23 := Tryz.sizeOf40
 v23 := Tryz.zeroValue40
 t25 := Tryz.underlying3
 a25 := Tryz.isAgg3
 z25 := Tryz.sizeOf3
 v25 := Tryz.zeroValue3
 t32 := Tryz.underlying117
 a32 := Tryz.isAgg117
 z32 := Tryz.sizeOf117
 v32 := Tryz.zeroValue117
 t35 := Tryz.underlying130
 a35 := Tryz.isAgg130
 z35 := Tryz.sizeOf130
 v35 := Tryz.zeroValue130
 t36 := Tryz.underlying131
 a36 := Tryz.isAgg131
 z36 := Tryz.sizeOf131
 v36 := Tryz.zeroValue131
 t41 := Tryz.underlying136
 a41 := Tryz.isAgg136
 z41 := Tryz.sizeOf136
 v41 := Tryz.zeroValue136
 t44 := Tryz.underlying29
 a44 := Tryz.isAgg29
 z44 := Tryz.sizeOf29
 v44 := Tryz.zeroValue29
 t46 := Tryz.underlying140
 a46 := Tryz.isAgg140
 z46 := Tryz.sizeOf140
 v46 := Tryz.zeroValue140
 t53 := Tryz.underlying151
 a53 := Tryz.isAgg151
 z53 := Tryz.sizeOf151
 v53 := Tryz.zeroValue151
 t57 := Tryz.underlying155
 a57 := Tryz.isAgg155
 z57 := Tryz.sizeOf155
 v57 := Tryz.zeroValue155
 t63 := Tryz.underlying164
 a63 := Tryz.isAgg164
 z63 := Tryz.sizeOf164
 v63 := Tryz.zeroValue164
 t64 := Tryz.underlying59
 a64 := Tryz.isAgg59
 z64 := Tryz.sizeOf59
 v64 := Tryz.zeroValue59 }
end Go.Proofs.YtkjghgndmpbfiaaGreat
