/-
WHAT VALUES READ AS, type by type. Conditions: none.
-/
import Derived.Test.YtoglalgbjobpkaaF0
import Derived.Test.YtoglalgbjobpkaaOpen
namespace Go.Proofs.Ytoglalgbjobpkaa.Kinds
open Go.RowKit Go.Proofs.Ytoglalgbjobpkaa.F Go.Proofs.Ytoglalgbjobpkaa.Open Go.Proofs.YtoglalgbjobpkaaW.PrintWords
set_option linter.unusedVariables false
theorem rd9 : Rd Try.prog Kd.string wfStr 9 := Rd.string (by kernel_rfl) Try.underlying9
theorem rd3 : Rd Try.prog (Kd.int .i64) (wfInt .i64) 3 := Rd.int (by kernel_rfl) Try.underlying3
instance : Inhabited S50 := ⟨z50⟩
def Wf50 (x : S50) : Prop := (wfPair wfStr (wfInt .i64)) (x.f0, x.f1)
theorem rd50 : Rd Try.prog k50 Wf50 50 := Rd.iso (fun x : S50 => (x.f0, x.f1)) (fun y => (⟨y.1, y.2⟩ : S50)) (fun _ => rfl) (Rd.struct (by kernel_rfl) Try.underlying50 (RdF.cons rfl rd9 (RdF.last rfl rd3)))
instance : Inhabited S90 := ⟨z90⟩
def Wf90 (x : S90) : Prop := (wfPair (wfInt .i64) (wfPair (wfInt .i64) (wfInt .i64))) (x.f0, x.f1, x.f2)
theorem rd90 : Rd Try.prog k90 Wf90 90 := Rd.iso (fun x : S90 => (x.f0, x.f1, x.f2)) (fun y => (⟨y.1, y.2.1, y.2.2⟩ : S90)) (fun _ => rfl) (Rd.struct (by kernel_rfl) Try.underlying90 (RdF.cons rfl rd3 (RdF.cons rfl rd3 (RdF.last rfl rd3))))
instance : Inhabited S92 := ⟨z92⟩
def Wf92 (x : S92) : Prop := (wfPair (wfInt .i64) (wfPair (wfInt .i64) (wfInt .i64))) (x.f0, x.f1, x.f2)
theorem rd92 : Rd Try.prog k92 Wf92 92 := Rd.iso (fun x : S92 => (x.f0, x.f1, x.f2)) (fun y => (⟨y.1, y.2.1, y.2.2⟩ : S92)) (fun _ => rfl) (Rd.struct (by kernel_rfl) Try.underlying92 (RdF.cons rfl rd3 (RdF.cons rfl rd3 (RdF.last rfl rd3))))
instance : Inhabited S114 := ⟨z114⟩
def Wf114 (x : S114) : Prop := (wfPair wfStr (wfInt .i64)) (x.f0, x.f1)
theorem rd114 : Rd Try.prog k114 Wf114 114 := Rd.iso (fun x : S114 => (x.f0, x.f1)) (fun y => (⟨y.1, y.2⟩ : S114)) (fun _ => rfl) (Rd.struct (by kernel_rfl) Try.underlying114 (RdF.cons rfl rd9 (RdF.last rfl rd3)))
instance : Inhabited S119 := ⟨z119⟩
def Wf119 (x : S119) : Prop := (wfPair wfStr wfStr) (x.f0, x.f1)
theorem rd119 : Rd Try.prog k119 Wf119 119 := Rd.iso (fun x : S119 => (x.f0, x.f1)) (fun y => (⟨y.1, y.2⟩ : S119)) (fun _ => rfl) (Rd.struct (by kernel_rfl) Try.underlying119 (RdF.cons rfl rd9 (RdF.last rfl rd9)))
instance : Inhabited S157 := ⟨z157⟩
def Wf157 (x : S157) : Prop := (wfPair (wfInt .i64) (wfPair (wfInt .i64) (wfInt .i64))) (x.f0, x.f1, x.f2)
theorem rd157 : Rd Try.prog k157 Wf157 157 := Rd.iso (fun x : S157 => (x.f0, x.f1, x.f2)) (fun y => (⟨y.1, y.2.1, y.2.2⟩ : S157)) (fun _ => rfl) (Rd.struct (by kernel_rfl) Try.underlying157 (RdF.cons rfl rd3 (RdF.cons rfl rd3 (RdF.last rfl rd3))))
theorem rd129 : Rd Try.prog (Kd.slice 157 k157) (wfList Wf157) 129 := Rd.slice (by kernel_rfl) Try.underlying129 rd157
instance : Inhabited S131 := ⟨z131⟩
def Wf131 (x : S131) : Prop := (wfPair (wfInt .i64) (wfPair (wfInt .i64) (wfPair (wfInt .i64) (wfList Wf157)))) (x.f0, x.f1, x.f2, x.f3)
theorem rd131 : Rd Try.prog k131 Wf131 131 := Rd.iso (fun x : S131 => (x.f0, x.f1, x.f2, x.f3)) (fun y => (⟨y.1, y.2.1, y.2.2.1, y.2.2.2⟩ : S131)) (fun _ => rfl) (Rd.struct (by kernel_rfl) Try.underlying131 (RdF.cons rfl rd3 (RdF.cons rfl rd3 (RdF.cons rfl rd3 (RdF.last rfl rd129)))))
instance : Inhabited S136 := ⟨z136⟩
def Wf136 (x : S136) : Prop := (wfPair (wfInt .i64) (wfPair (wfInt .i64) (wfInt .i64))) (x.f0, x.f1, x.f2)
theorem rd136 : Rd Try.prog k136 Wf136 136 := Rd.iso (fun x : S136 => (x.f0, x.f1, x.f2)) (fun y => (⟨y.1, y.2.1, y.2.2⟩ : S136)) (fun _ => rfl) (Rd.struct (by kernel_rfl) Try.underlying136 (RdF.cons rfl rd3 (RdF.cons rfl rd3 (RdF.last rfl rd3))))
theorem rd132 : Rd Try.prog (Kd.slice 136 k136) (wfList Wf136) 132 := Rd.slice (by kernel_rfl) Try.underlying132 rd136
instance : Inhabited S134 := ⟨z134⟩
def Wf134 (x : S134) : Prop := (wfPair (wfInt .i64) (wfPair (wfInt .i64) (wfPair (wfInt .i64) (wfList Wf136)))) (x.f0, x.f1, x.f2, x.f3)
theorem rd134 : Rd Try.prog k134 Wf134 134 := Rd.iso (fun x : S134 => (x.f0, x.f1, x.f2, x.f3)) (fun y => (⟨y.1, y.2.1, y.2.2.1, y.2.2.2⟩ : S134)) (fun _ => rfl) (Rd.struct (by kernel_rfl) Try.underlying134 (RdF.cons rfl rd3 (RdF.cons rfl rd3 (RdF.cons rfl rd3 (RdF.last rfl rd132)))))
instance : Inhabited S148 := ⟨z148⟩
def Wf148 (x : S148) : Prop := (wfPair wfStr wfStr) (x.f0, x.f1)
theorem rd148 : Rd Try.prog k148 Wf148 148 := Rd.iso (fun x : S148 => (x.f0, x.f1)) (fun y => (⟨y.1, y.2⟩ : S148)) (fun _ => rfl) (Rd.struct (by kernel_rfl) Try.underlying148 (RdF.cons rfl rd9 (RdF.last rfl rd9)))
theorem rd2 : Rd Try.prog (Kd.int .i64) (wfInt .i64) 2 := Rd.int (by kernel_rfl) Try.underlying2
theorem rd4 : Rd Try.prog Kd.bool wfBool 4 := Rd.bool (by kernel_rfl) Try.underlying4
theorem rd5 : Rd Try.prog (Kd.int .u8) (wfInt .u8) 5 := Rd.int (by kernel_rfl) Try.underlying5
theorem rd12 : Rd Try.prog (Kd.int .u64) (wfInt .u64) 12 := Rd.int (by kernel_rfl) Try.underlying12
theorem rd21 : Rd Try.prog (Kd.int .i32) (wfInt .i32) 21 := Rd.int (by kernel_rfl) Try.underlying21
theorem rd24 : Rd Try.prog (Kd.slice 5 (Kd.int .u8)) (wfList (wfInt .u8)) 24 := Rd.slice (by kernel_rfl) Try.underlying24 rd5
theorem rd29 : Rd Try.prog (Kd.slice 92 k92) (wfList Wf92) 29 := Rd.slice (by kernel_rfl) Try.underlying29 rd92
theorem rd33 : Rd Try.prog (Kd.slice 90 k90) (wfList Wf90) 33 := Rd.slice (by kernel_rfl) Try.underlying33 rd90
theorem rd42 : Rd Try.prog (Kd.slice 50 k50) (wfList Wf50) 42 := Rd.slice (by kernel_rfl) Try.underlying42 rd50
theorem rd51 : Rd Try.prog (Kd.slice 3 (Kd.int .i64)) (wfList (wfInt .i64)) 51 := Rd.slice (by kernel_rfl) Try.underlying51 rd3
theorem rd52 : Rd Try.prog (Kd.slice 9 Kd.string) (wfList wfStr) 52 := Rd.slice (by kernel_rfl) Try.underlying52 rd9
theorem rd62 : Rd Try.prog (Kd.slice 114 k114) (wfList Wf114) 62 := Rd.slice (by kernel_rfl) Try.underlying62 rd114
theorem rd68 : Rd Try.prog (Kd.slice 148 k148) (wfList Wf148) 68 := Rd.slice (by kernel_rfl) Try.underlying68 rd148
theorem rd73 : Rd Try.prog (Kd.slice 119 k119) (wfList Wf119) 73 := Rd.slice (by kernel_rfl) Try.underlying73 rd119
theorem rd79 : Rd Try.prog (Kd.slice 131 k131) (wfList Wf131) 79 := Rd.slice (by kernel_rfl) Try.underlying79 rd131
theorem rd82 : Rd Try.prog (Kd.slice 134 k134) (wfList Wf134) 82 := Rd.slice (by kernel_rfl) Try.underlying82 rd134
theorem rd87 : Rd Try.prog (Kd.int .u64) (wfInt .u64) 87 := Rd.int (by kernel_rfl) Try.underlying87
theorem rd88 : Rd Try.prog (Kd.int .u64) (wfInt .u64) 88 := Rd.int (by kernel_rfl) Try.underlying88
theorem rd106 : Rd Try.prog (Kd.slice 4 Kd.bool) (wfList wfBool) 106 := Rd.slice (by kernel_rfl) Try.underlying106 rd4
theorem rd125 : Rd Try.prog (Kd.int .u32) (wfInt .u32) 125 := Rd.int (by kernel_rfl) Try.underlying125
end Go.Proofs.Ytoglalgbjobpkaa.Kinds
