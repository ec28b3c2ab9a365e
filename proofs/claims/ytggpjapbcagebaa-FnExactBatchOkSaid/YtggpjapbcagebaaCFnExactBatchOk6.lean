/-
FnExactBatchOk: for every batch the law answers true: the program's BatchOk answers as the reference's, and leaves its argument as it was.
Conditions: none beyond the statement's own.
(Part 6 of 6.)
-/
import Derived.Laws.BitsLemmas
import Derived.Test.YtggpjapbcagebaaRows
import Derived.WalkKit
import Derived.ProofKit
import Derived.OpenShut
import Derived.ShutString
import Derived.ChangeOld
import Derived.Below
import Derived.SizedLaws
import Derived.Test.YtggpjapbcagebaaCFnExactBatchOk5
namespace Go.Proofs.Ytggpjapbcagebaa.Kinds
open Go.RowKit Go.Proofs.Ytggpjapbcagebaa.F Go.Proofs.Ytggpjapbcagebaa.Open Go.Proofs.YtggpjapbcagebaaW.PrintWords
set_option linter.unusedVariables false
theorem rd3 : Rd Try.prog (Kd.int .i64) (wfInt .i64) 3 := Rd.int (by kernel_rfl) Try.underlying3
theorem rd4 : Rd Try.prog Kd.bool wfBool 4 := Rd.bool (by kernel_rfl) Try.underlying4
theorem rd9 : Rd Try.prog Kd.string wfStr 9 := Rd.string (by kernel_rfl) Try.underlying9
instance : Inhabited S428 := ⟨z428⟩
def Wf428 (x : S428) : Prop := (wfPair wfStr wfStr) (x.f0, x.f1)
theorem rd428 : Rd Try.prog k428 Wf428 428 := Rd.iso (fun x : S428 => (x.f0, x.f1)) (fun y => (⟨y.1, y.2⟩ : S428)) (fun _ => rfl) (Rd.struct (by kernel_rfl) Try.underlying428 (RdF.cons rfl rd9 (RdF.last rfl rd9)))
theorem rd322 : Rd Try.prog (Kd.slice 428 k428) (wfList Wf428) 322 := Rd.slice (by kernel_rfl) Try.underlying322 rd428
instance : Inhabited S324 := ⟨z324⟩
def Wf324 (x : S324) : Prop := (wfPair (wfInt .i64) (wfPair wfBool (wfPair wfStr (wfPair wfBool (wfPair wfStr (wfList Wf428)))))) (x.f0, x.f1, x.f2, x.f3, x.f4, x.f5)
theorem rd324 : Rd Try.prog k324 Wf324 324 := Rd.iso (fun x : S324 => (x.f0, x.f1, x.f2, x.f3, x.f4, x.f5)) (fun y => (⟨y.1, y.2.1, y.2.2.1, y.2.2.2.1, y.2.2.2.2.1, y.2.2.2.2.2⟩ : S324)) (fun _ => rfl) (Rd.struct (by kernel_rfl) Try.underlying324 (RdF.cons rfl rd3 (RdF.cons rfl rd4 (RdF.cons rfl rd9 (RdF.cons rfl rd4 (RdF.cons rfl rd9 (RdF.last rfl rd322)))))))
theorem rd28 : Rd Try.prog (Kd.slice 324 k324) (wfList Wf324) 28 := Rd.slice (by kernel_rfl) Try.underlying28 rd324
instance : Inhabited S30 := ⟨z30⟩
def Wf30 (x : S30) : Prop := (wfPair (wfInt .i64) (wfPair (wfInt .i64) (wfPair (wfInt .i64) (wfPair (wfInt .i64) (wfPair (wfInt .i64) (wfPair (wfInt .i64) (wfList Wf324))))))) (x.f0, x.f1, x.f2, x.f3, x.f4, x.f5, x.f6)
theorem rd30 : Rd Try.prog k30 Wf30 30 := Rd.iso (fun x : S30 => (x.f0, x.f1, x.f2, x.f3, x.f4, x.f5, x.f6)) (fun y => (⟨y.1, y.2.1, y.2.2.1, y.2.2.2.1, y.2.2.2.2.1, y.2.2.2.2.2.1, y.2.2.2.2.2.2⟩ : S30)) (fun _ => rfl) (Rd.struct (by kernel_rfl) Try.underlying30 (RdF.cons rfl rd3 (RdF.cons rfl rd3 (RdF.cons rfl rd3 (RdF.cons rfl rd3 (RdF.cons rfl rd3 (RdF.cons rfl rd3 (RdF.last rfl rd28))))))))
instance : Inhabited S325 := ⟨z325⟩
def Wf325 (x : S325) : Prop := (wfPair wfStr wfStr) (x.f0, x.f1)
theorem rd325 : Rd Try.prog k325 Wf325 325 := Rd.iso (fun x : S325 => (x.f0, x.f1)) (fun y => (⟨y.1, y.2⟩ : S325)) (fun _ => rfl) (Rd.struct (by kernel_rfl) Try.underlying325 (RdF.cons rfl rd9 (RdF.last rfl rd9)))
theorem rd116 : Rd Try.prog (Kd.slice 325 k325) (wfList Wf325) 116 := Rd.slice (by kernel_rfl) Try.underlying116 rd325
instance : Inhabited S118 := ⟨z118⟩
def Wf118 (x : S118) : Prop := (wfPair (wfInt .i64) (wfPair wfBool (wfPair wfStr (wfPair wfBool (wfPair wfStr (wfList Wf325)))))) (x.f0, x.f1, x.f2, x.f3, x.f4, x.f5)
theorem rd118 : Rd Try.prog k118 Wf118 118 := Rd.iso (fun x : S118 => (x.f0, x.f1, x.f2, x.f3, x.f4, x.f5)) (fun y => (⟨y.1, y.2.1, y.2.2.1, y.2.2.2.1, y.2.2.2.2.1, y.2.2.2.2.2⟩ : S118)) (fun _ => rfl) (Rd.struct (by kernel_rfl) Try.underlying118 (RdF.cons rfl rd3 (RdF.cons rfl rd4 (RdF.cons rfl rd9 (RdF.cons rfl rd4 (RdF.cons rfl rd9 (RdF.last rfl rd116)))))))
theorem rd33 : Rd Try.prog (Kd.slice 118 k118) (wfList Wf118) 33 := Rd.slice (by kernel_rfl) Try.underlying33 rd118
instance : Inhabited S35 := ⟨z35⟩
def Wf35 (x : S35) : Prop := (wfPair (wfInt .i64) (wfPair (wfInt .i64) (wfPair (wfInt .i64) (wfPair (wfInt .i64) (wfPair (wfInt .i64) (wfPair (wfInt .i64) (wfList Wf118))))))) (x.f0, x.f1, x.f2, x.f3, x.f4, x.f5, x.f6)
theorem rd35 : Rd Try.prog k35 Wf35 35 := Rd.iso (fun x : S35 => (x.f0, x.f1, x.f2, x.f3, x.f4, x.f5, x.f6)) (fun y => (⟨y.1, y.2.1, y.2.2.1, y.2.2.2.1, y.2.2.2.2.1, y.2.2.2.2.2.1, y.2.2.2.2.2.2⟩ : S35)) (fun _ => rfl) (Rd.struct (by kernel_rfl) Try.underlying35 (RdF.cons rfl rd3 (RdF.cons rfl rd3 (RdF.cons rfl rd3 (RdF.cons rfl rd3 (RdF.cons rfl rd3 (RdF.cons rfl rd3 (RdF.last rfl rd33))))))))
theorem rd156 : Rd Try.prog (Kd.slice 35 k35) (wfList Wf35) 156 := Rd.slice (by kernel_rfl) Try.underlying156 rd35
instance : Inhabited S247 := ⟨z247⟩
def Wf247 (x : S247) : Prop := (wfPair (wfInt .i64) (wfList Wf35)) (x.f0, x.f1)
theorem rd247 : Rd Try.prog k247 Wf247 247 := Rd.iso (fun x : S247 => (x.f0, x.f1)) (fun y => (⟨y.1, y.2⟩ : S247)) (fun _ => rfl) (Rd.struct (by kernel_rfl) Try.underlying247 (RdF.cons rfl rd3 (RdF.last rfl rd156)))
theorem rd47 : Rd Try.prog (Kd.slice 247 k247) (wfList Wf247) 47 := Rd.slice (by kernel_rfl) Try.underlying47 rd247
instance : Inhabited S49 := ⟨z49⟩
def Wf49 (x : S49) : Prop := (wfPair (wfInt .i64) (wfPair (wfInt .i64) (wfPair (wfInt .i64) (wfList Wf247)))) (x.f0, x.f1, x.f2, x.f3)
theorem rd49 : Rd Try.prog k49 Wf49 49 := Rd.iso (fun x : S49 => (x.f0, x.f1, x.f2, x.f3)) (fun y => (⟨y.1, y.2.1, y.2.2.1, y.2.2.2⟩ : S49)) (fun _ => rfl) (Rd.struct (by kernel_rfl) Try.underlying49 (RdF.cons rfl rd3 (RdF.cons rfl rd3 (RdF.cons rfl rd3 (RdF.last rfl rd47)))))
theorem rd353 : Rd Try.prog (Kd.slice 30 k30) (wfList Wf30) 353 := Rd.slice (by kernel_rfl) Try.underlying353 rd30
instance : Inhabited S355 := ⟨z355⟩
def Wf355 (x : S355) : Prop := (wfPair (wfInt .i64) (wfList Wf30)) (x.f0, x.f1)
theorem rd355 : Rd Try.prog k355 Wf355 355 := Rd.iso (fun x : S355 => (x.f0, x.f1)) (fun y => (⟨y.1, y.2⟩ : S355)) (fun _ => rfl) (Rd.struct (by kernel_rfl) Try.underlying355 (RdF.cons rfl rd3 (RdF.last rfl rd353)))
theorem rd84 : Rd Try.prog (Kd.slice 355 k355) (wfList Wf355) 84 := Rd.slice (by kernel_rfl) Try.underlying84 rd355
instance : Inhabited S86 := ⟨z86⟩
def Wf86 (x : S86) : Prop := (wfPair (wfInt .i64) (wfPair (wfInt .i64) (wfPair (wfInt .i64) (wfList Wf355)))) (x.f0, x.f1, x.f2, x.f3)
theorem rd86 : Rd Try.prog k86 Wf86 86 := Rd.iso (fun x : S86 => (x.f0, x.f1, x.f2, x.f3)) (fun y => (⟨y.1, y.2.1, y.2.2.1, y.2.2.2⟩ : S86)) (fun _ => rfl) (Rd.struct (by kernel_rfl) Try.underlying86 (RdF.cons rfl rd3 (RdF.cons rfl rd3 (RdF.cons rfl rd3 (RdF.last rfl rd84)))))
instance : Inhabited S162 := ⟨z162⟩
def Wf162 (x : S162) : Prop := (wfPair (wfInt .i64) (wfPair (wfInt .i64) (wfInt .i64))) (x.f0, x.f1, x.f2)
theorem rd162 : Rd Try.prog k162 Wf162 162 := Rd.iso (fun x : S162 => (x.f0, x.f1, x.f2)) (fun y => (⟨y.1, y.2.1, y.2.2⟩ : S162)) (fun _ => rfl) (Rd.struct (by kernel_rfl) Try.underlying162 (RdF.cons rfl rd3 (RdF.cons rfl rd3 (RdF.last rfl rd3))))
instance : Inhabited S168 := ⟨z168⟩
def Wf168 (x : S168) : Prop := (wfPair (wfInt .i64) (wfPair (wfInt .i64) (wfInt .i64))) (x.f0, x.f1, x.f2)
theorem rd168 : Rd Try.prog k168 Wf168 168 := Rd.iso (fun x : S168 => (x.f0, x.f1, x.f2)) (fun y => (⟨y.1, y.2.1, y.2.2⟩ : S168)) (fun _ => rfl) (Rd.struct (by kernel_rfl) Try.underlying168 (RdF.cons rfl rd3 (RdF.cons rfl rd3 (RdF.last rfl rd3))))
theorem rd164 : Rd Try.prog (Kd.slice 168 k168) (wfList Wf168) 164 := Rd.slice (by kernel_rfl) Try.underlying164 rd168
instance : Inhabited S166 := ⟨z166⟩
def Wf166 (x : S166) : Prop := (wfPair (wfInt .i64) (wfPair (wfInt .i64) (wfPair (wfInt .i64) (wfList Wf168)))) (x.f0, x.f1, x.f2, x.f3)
theorem rd166 : Rd Try.prog k166 Wf166 166 := Rd.iso (fun x : S166 => (x.f0, x.f1, x.f2, x.f3)) (fun y => (⟨y.1, y.2.1, y.2.2.1, y.2.2.2⟩ : S166)) (fun _ => rfl) (Rd.struct (by kernel_rfl) Try.underlying166 (RdF.cons rfl rd3 (RdF.cons rfl rd3 (RdF.cons rfl rd3 (RdF.last rfl rd164)))))
theorem rd190 : Rd Try.prog (Kd.slice 9 Kd.string) (wfList wfStr) 190 := Rd.slice (by kernel_rfl) Try.underlying190 rd9
instance : Inhabited S341 := ⟨z341⟩
def Wf341 (x : S341) : Prop := (wfPair wfStr (wfInt .i64)) (x.f0, x.f1)
theorem rd341 : Rd Try.prog k341 Wf341 341 := Rd.iso (fun x : S341 => (x.f0, x.f1)) (fun y => (⟨y.1, y.2⟩ : S341)) (fun _ => rfl) (Rd.struct (by kernel_rfl) Try.underlying341 (RdF.cons rfl rd9 (RdF.last rfl rd3)))
theorem rd191 : Rd Try.prog (Kd.slice 341 k341) (wfList Wf341) 191 := Rd.slice (by kernel_rfl) Try.underlying191 rd341
instance : Inhabited S193 := ⟨z193⟩
def Wf193 (x : S193) : Prop := (wfPair wfStr (wfPair (wfList wfStr) (wfList Wf341))) (x.f0, x.f1, x.f2)
theorem rd193 : Rd Try.prog k193 Wf193 193 := Rd.iso (fun x : S193 => (x.f0, x.f1, x.f2)) (fun y => (⟨y.1, y.2.1, y.2.2⟩ : S193)) (fun _ => rfl) (Rd.struct (by kernel_rfl) Try.underlying193 (RdF.cons rfl rd9 (RdF.cons rfl rd190 (RdF.last rfl rd191))))
instance : Inhabited S201 := ⟨z201⟩
def Wf201 (x : S201) : Prop := (wfPair wfStr (wfInt .i64)) (x.f0, x.f1)
theorem rd201 : Rd Try.prog k201 Wf201 201 := Rd.iso (fun x : S201 => (x.f0, x.f1)) (fun y => (⟨y.1, y.2⟩ : S201)) (fun _ => rfl) (Rd.struct (by kernel_rfl) Try.underlying201 (RdF.cons rfl rd9 (RdF.last rfl rd3)))
theorem rd60 : Rd Try.prog (Kd.slice 201 k201) (wfList Wf201) 60 := Rd.slice (by kernel_rfl) Try.underlying60 rd201
instance : Inhabited S195 := ⟨z195⟩
def Wf195 (x : S195) : Prop := (wfPair wfStr (wfPair (wfList wfStr) (wfList Wf201))) (x.f0, x.f1, x.f2)
theorem rd195 : Rd Try.prog k195 Wf195 195 := Rd.iso (fun x : S195 => (x.f0, x.f1, x.f2)) (fun y => (⟨y.1, y.2.1, y.2.2⟩ : S195)) (fun _ => rfl) (Rd.struct (by kernel_rfl) Try.underlying195 (RdF.cons rfl rd9 (RdF.cons rfl rd190 (RdF.last rfl rd60))))
instance : Inhabited S217 := ⟨z217⟩
def Wf217 (x : S217) : Prop := (wfPair wfStr (wfInt .i64)) (x.f0, x.f1)
theorem rd217 : Rd Try.prog k217 Wf217 217 := Rd.iso (fun x : S217 => (x.f0, x.f1)) (fun y => (⟨y.1, y.2⟩ : S217)) (fun _ => rfl) (Rd.struct (by kernel_rfl) Try.underlying217 (RdF.cons rfl rd9 (RdF.last rfl rd3)))
theorem rd92 : Rd Try.prog (Kd.slice 3 (Kd.int .i64)) (wfList (wfInt .i64)) 92 := Rd.slice (by kernel_rfl) Try.underlying92 rd3
instance : Inhabited S240 := ⟨z240⟩
def Wf240 (x : S240) : Prop := (wfPair (wfInt .i64) wfStr) (x.f0, x.f1)
theorem rd240 : Rd Try.prog k240 Wf240 240 := Rd.iso (fun x : S240 => (x.f0, x.f1)) (fun y => (⟨y.1, y.2⟩ : S240)) (fun _ => rfl) (Rd.struct (by kernel_rfl) Try.underlying240 (RdF.cons rfl rd3 (RdF.last rfl rd9)))
theorem rd223 : Rd Try.prog (Kd.slice 240 k240) (wfList Wf240) 223 := Rd.slice (by kernel_rfl) Try.underlying223 rd240
instance : Inhabited S225 := ⟨z225⟩
def Wf225 (x : S225) : Prop := (wfPair (wfInt .i64) (wfPair (wfInt .i64) (wfPair (wfInt .i64) (wfPair (wfList (wfInt .i64)) (wfPair (wfList Wf240) (wfPair (wfList (wfInt .i64)) (wfPair (wfList (wfInt .i64)) (wfInt .i64)))))))) (x.f0, x.f1, x.f2, x.f3, x.f4, x.f5, x.f6, x.f7)
theorem rd225 : Rd Try.prog k225 Wf225 225 := Rd.iso (fun x : S225 => (x.f0, x.f1, x.f2, x.f3, x.f4, x.f5, x.f6, x.f7)) (fun y => (⟨y.1, y.2.1, y.2.2.1, y.2.2.2.1, y.2.2.2.2.1, y.2.2.2.2.2.1, y.2.2.2.2.2.2.1, y.2.2.2.2.2.2.2⟩ : S225)) (fun _ => rfl) (Rd.struct (by kernel_rfl) Try.underlying225 (RdF.cons rfl rd3 (RdF.cons rfl rd3 (RdF.cons rfl rd3 (RdF.cons rfl rd92 (RdF.cons rfl rd223 (RdF.cons rfl rd92 (RdF.cons rfl rd92 (RdF.last rfl rd3)))))))))
instance : Inhabited S238 := ⟨z238⟩
def Wf238 (x : S238) : Prop := (wfPair (wfInt .i64) (wfPair (wfInt .i64) (wfPair (wfInt .i64) (wfPair (wfInt .i64) (wfPair (wfInt .i64) (wfPair (wfInt .i64) (wfPair (wfList Wf240) (wfPair (wfInt .i64) wfBool)))))))) (x.f0, x.f1, x.f2, x.f3, x.f4, x.f5, x.f6, x.f7, x.f8)
theorem rd238 : Rd Try.prog k238 Wf238 238 := Rd.iso (fun x : S238 => (x.f0, x.f1, x.f2, x.f3, x.f4, x.f5, x.f6, x.f7, x.f8)) (fun y => (⟨y.1, y.2.1, y.2.2.1, y.2.2.2.1, y.2.2.2.2.1, y.2.2.2.2.2.1, y.2.2.2.2.2.2.1, y.2.2.2.2.2.2.2.1, y.2.2.2.2.2.2.2.2⟩ : S238)) (fun _ => rfl) (Rd.struct (by kernel_rfl) Try.underlying238 (RdF.cons rfl rd3 (RdF.cons rfl rd3 (RdF.cons rfl rd3 (RdF.cons rfl rd3 (RdF.cons rfl rd3 (RdF.cons rfl rd3 (RdF.cons rfl rd223 (RdF.cons rfl rd3 (RdF.last rfl rd4))))))))))
instance : Inhabited S250 := ⟨z250⟩
def Wf250 (x : S250) : Prop := (wfPair Wf49 (wfPair (wfInt .i64) wfBool)) (x.f0, x.f1, x.f2)
theorem rd250 : Rd Try.prog k250 Wf250 250 := Rd.iso (fun x : S250 => (x.f0, x.f1, x.f2)) (fun y => (⟨y.1, y.2.1, y.2.2⟩ : S250)) (fun _ => rfl) (Rd.struct (by kernel_rfl) Try.underlying250 (RdF.cons rfl rd49 (RdF.cons rfl rd3 (RdF.last rfl rd4))))
instance : Inhabited S286 := ⟨z286⟩
def Wf286 (x : S286) : Prop := (wfPair wfStr (wfPair (wfInt .i64) (wfPair (wfInt .i64) (wfPair wfBool (wfList (wfInt .i64)))))) (x.f0, x.f1, x.f2, x.f3, x.f4)
theorem rd286 : Rd Try.prog k286 Wf286 286 := Rd.iso (fun x : S286 => (x.f0, x.f1, x.f2, x.f3, x.f4)) (fun y => (⟨y.1, y.2.1, y.2.2.1, y.2.2.2.1, y.2.2.2.2⟩ : S286)) (fun _ => rfl) (Rd.struct (by kernel_rfl) Try.underlying286 (RdF.cons rfl rd9 (RdF.cons rfl rd3 (RdF.cons rfl rd3 (RdF.cons rfl rd4 (RdF.last rfl rd92))))))
instance : Inhabited S405 := ⟨z405⟩
def Wf405 (x : S405) : Prop := (wfPair (wfInt .i64) (wfPair (wfInt .i64) (wfInt .i64))) (x.f0, x.f1, x.f2)
theorem rd405 : Rd Try.prog k405 Wf405 405 := Rd.iso (fun x : S405 => (x.f0, x.f1, x.f2)) (fun y => (⟨y.1, y.2.1, y.2.2⟩ : S405)) (fun _ => rfl) (Rd.struct (by kernel_rfl) Try.underlying405 (RdF.cons rfl rd3 (RdF.cons rfl rd3 (RdF.last rfl rd3))))
theorem rd294 : Rd Try.prog (Kd.slice 405 k405) (wfList Wf405) 294 := Rd.slice (by kernel_rfl) Try.underlying294 rd405
instance : Inhabited S296 := ⟨z296⟩
def Wf296 (x : S296) : Prop := (wfPair (wfInt .i64) (wfPair (wfInt .i64) (wfPair (wfInt .i64) (wfList Wf405)))) (x.f0, x.f1, x.f2, x.f3)
theorem rd296 : Rd Try.prog k296 Wf296 296 := Rd.iso (fun x : S296 => (x.f0, x.f1, x.f2, x.f3)) (fun y => (⟨y.1, y.2.1, y.2.2.1, y.2.2.2⟩ : S296)) (fun _ => rfl) (Rd.struct (by kernel_rfl) Try.underlying296 (RdF.cons rfl rd3 (RdF.cons rfl rd3 (RdF.cons rfl rd3 (RdF.last rfl rd294)))))
instance : Inhabited S302 := ⟨z302⟩
def Wf302 (x : S302) : Prop := (wfPair (wfInt .i64) Wf118) (x.f0, x.f1)
theorem rd302 : Rd Try.prog k302 Wf302 302 := Rd.iso (fun x : S302 => (x.f0, x.f1)) (fun y => (⟨y.1, y.2⟩ : S302)) (fun _ => rfl) (Rd.struct (by kernel_rfl) Try.underlying302 (RdF.cons rfl rd3 (RdF.last rfl rd118)))
instance : Inhabited S313 := ⟨z313⟩
def Wf313 (x : S313) : Prop := (wfPair wfStr wfStr) (x.f0, x.f1)
theorem rd313 : Rd Try.prog k313 Wf313 313 := Rd.iso (fun x : S313 => (x.f0, x.f1)) (fun y => (⟨y.1, y.2⟩ : S313)) (fun _ => rfl) (Rd.struct (by kernel_rfl) Try.underlying313 (RdF.cons rfl rd9 (RdF.last rfl rd9)))
instance : Inhabited S433 := ⟨z433⟩
def Wf433 (x : S433) : Prop := (wfPair (wfInt .i64) wfStr) (x.f0, x.f1)
theorem rd433 : Rd Try.prog k433 Wf433 433 := Rd.iso (fun x : S433 => (x.f0, x.f1)) (fun y => (⟨y.1, y.2⟩ : S433)) (fun _ => rfl) (Rd.struct (by kernel_rfl) Try.underlying433 (RdF.cons rfl rd3 (RdF.last rfl rd9)))
theorem rd344 : Rd Try.prog (Kd.slice 433 k433) (wfList Wf433) 344 := Rd.slice (by kernel_rfl) Try.underlying344 rd433
instance : Inhabited S346 := ⟨z346⟩
def Wf346 (x : S346) : Prop := (wfPair (wfInt .i64) (wfPair (wfInt .i64) (wfPair (wfInt .i64) (wfPair (wfList (wfInt .i64)) (wfPair (wfList Wf433) (wfPair (wfList (wfInt .i64)) (wfPair (wfList (wfInt .i64)) (wfInt .i64)))))))) (x.f0, x.f1, x.f2, x.f3, x.f4, x.f5, x.f6, x.f7)
theorem rd346 : Rd Try.prog k346 Wf346 346 := Rd.iso (fun x : S346 => (x.f0, x.f1, x.f2, x.f3, x.f4, x.f5, x.f6, x.f7)) (fun y => (⟨y.1, y.2.1, y.2.2.1, y.2.2.2.1, y.2.2.2.2.1, y.2.2.2.2.2.1, y.2.2.2.2.2.2.1, y.2.2.2.2.2.2.2⟩ : S346)) (fun _ => rfl) (Rd.struct (by kernel_rfl) Try.underlying346 (RdF.cons rfl rd3 (RdF.cons rfl rd3 (RdF.cons rfl rd3 (RdF.cons rfl rd92 (RdF.cons rfl rd344 (RdF.cons rfl rd92 (RdF.cons rfl rd92 (RdF.last rfl rd3)))))))))
instance : Inhabited S349 := ⟨z349⟩
def Wf349 (x : S349) : Prop := (wfPair (wfInt .i64) (wfPair (wfInt .i64) (wfPair (wfInt .i64) (wfPair (wfInt .i64) (wfPair (wfInt .i64) (wfPair (wfInt .i64) (wfPair (wfList Wf433) (wfPair (wfInt .i64) wfBool)))))))) (x.f0, x.f1, x.f2, x.f3, x.f4, x.f5, x.f6, x.f7, x.f8)
theorem rd349 : Rd Try.prog k349 Wf349 349 := Rd.iso (fun x : S349 => (x.f0, x.f1, x.f2, x.f3, x.f4, x.f5, x.f6, x.f7, x.f8)) (fun y => (⟨y.1, y.2.1, y.2.2.1, y.2.2.2.1, y.2.2.2.2.1, y.2.2.2.2.2.1, y.2.2.2.2.2.2.1, y.2.2.2.2.2.2.2.1, y.2.2.2.2.2.2.2.2⟩ : S349)) (fun _ => rfl) (Rd.struct (by kernel_rfl) Try.underlying349 (RdF.cons rfl rd3 (RdF.cons rfl rd3 (RdF.cons rfl rd3 (RdF.cons rfl rd3 (RdF.cons rfl rd3 (RdF.cons rfl rd3 (RdF.cons rfl rd344 (RdF.cons rfl rd3 (RdF.last rfl rd4))))))))))
instance : Inhabited S367 := ⟨z367⟩
def Wf367 (x : S367) : Prop := (wfPair Wf86 (wfPair (wfInt .i64) wfBool)) (x.f0, x.f1, x.f2)
theorem rd367 : Rd Try.prog k367 Wf367 367 := Rd.iso (fun x : S367 => (x.f0, x.f1, x.f2)) (fun y => (⟨y.1, y.2.1, y.2.2⟩ : S367)) (fun _ => rfl) (Rd.struct (by kernel_rfl) Try.underlying367 (RdF.cons rfl rd86 (RdF.cons rfl rd3 (RdF.last rfl rd4))))
instance : Inhabited S370 := ⟨z370⟩
def Wf370 (x : S370) : Prop := (wfPair wfStr (wfPair (wfInt .i64) (wfPair (wfInt .i64) (wfPair wfBool (wfList (wfInt .i64)))))) (x.f0, x.f1, x.f2, x.f3, x.f4)
theorem rd370 : Rd Try.prog k370 Wf370 370 := Rd.iso (fun x : S370 => (x.f0, x.f1, x.f2, x.f3, x.f4)) (fun y => (⟨y.1, y.2.1, y.2.2.1, y.2.2.2.1, y.2.2.2.2⟩ : S370)) (fun _ => rfl) (Rd.struct (by kernel_rfl) Try.underlying370 (RdF.cons rfl rd9 (RdF.cons rfl rd3 (RdF.cons rfl rd3 (RdF.cons rfl rd4 (RdF.last rfl rd92))))))
instance : Inhabited S442 := ⟨z442⟩
def Wf442 (x : S442) : Prop := (wfPair (wfInt .i64) (wfPair wfStr (wfPair (wfInt .i64) (wfPair (wfInt .i64) (wfPair (wfInt .i64) (wfList Wf118)))))) (x.f0, x.f1, x.f2, x.f3, x.f4, x.f5)
theorem rd442 : Rd Try.prog k442 Wf442 442 := Rd.iso (fun x : S442 => (x.f0, x.f1, x.f2, x.f3, x.f4, x.f5)) (fun y => (⟨y.1, y.2.1, y.2.2.1, y.2.2.2.1, y.2.2.2.2.1, y.2.2.2.2.2⟩ : S442)) (fun _ => rfl) (Rd.struct (by kernel_rfl) Try.underlying442 (RdF.cons rfl rd3 (RdF.cons rfl rd9 (RdF.cons rfl rd3 (RdF.cons rfl rd3 (RdF.cons rfl rd3 (RdF.last rfl rd33)))))))
theorem rd2 : Rd Try.prog (Kd.int .i64) (wfInt .i64) 2 := Rd.int (by kernel_rfl) Try.underlying2
theorem rd5 : Rd Try.prog (Kd.int .u8) (wfInt .u8) 5 := Rd.int (by kernel_rfl) Try.underlying5
theorem rd12 : Rd Try.prog (Kd.int .u64) (wfInt .u64) 12 := Rd.int (by kernel_rfl) Try.underlying12
theorem rd21 : Rd Try.prog (Kd.int .i32) (wfInt .i32) 21 := Rd.int (by kernel_rfl) Try.underlying21
theorem rd22 : Rd Try.prog (Kd.slice 5 (Kd.int .u8)) (wfList (wfInt .u8)) 22 := Rd.slice (by kernel_rfl) Try.underlying22 rd5
theorem rd40 : Rd Try.prog (Kd.slice 193 k193) (wfList Wf193) 40 := Rd.slice (by kernel_rfl) Try.underlying40 rd193
theorem rd43 : Rd Try.prog (Kd.slice 195 k195) (wfList Wf195) 43 := Rd.slice (by kernel_rfl) Try.underlying43 rd195
theorem rd54 : Rd Try.prog (Kd.slice 217 k217) (wfList Wf217) 54 := Rd.slice (by kernel_rfl) Try.underlying54 rd217
theorem rd61 : Rd Try.prog (Kd.slice 225 k225) (wfList Wf225) 61 := Rd.slice (by kernel_rfl) Try.underlying61 rd225
theorem rd62 : Rd Try.prog (Kd.slice 238 k238) (wfList Wf238) 62 := Rd.slice (by kernel_rfl) Try.underlying62 rd238
theorem rd75 : Rd Try.prog (Kd.slice 346 k346) (wfList Wf346) 75 := Rd.slice (by kernel_rfl) Try.underlying75 rd346
theorem rd76 : Rd Try.prog (Kd.slice 349 k349) (wfList Wf349) 76 := Rd.slice (by kernel_rfl) Try.underlying76 rd349
theorem rd91 : Rd Try.prog (Kd.slice 250 k250) (wfList Wf250) 91 := Rd.slice (by kernel_rfl) Try.underlying91 rd250
theorem rd100 : Rd Try.prog (Kd.slice 49 k49) (wfList Wf49) 100 := Rd.slice (by kernel_rfl) Try.underlying100 rd49
theorem rd101 : Rd Try.prog (Kd.slice 286 k286) (wfList Wf286) 101 := Rd.slice (by kernel_rfl) Try.underlying101 rd286
theorem rd112 : Rd Try.prog (Kd.slice 166 k166) (wfList Wf166) 112 := Rd.slice (by kernel_rfl) Try.underlying112 rd166
theorem rd121 : Rd Try.prog (Kd.slice 162 k162) (wfList Wf162) 121 := Rd.slice (by kernel_rfl) Try.underlying121 rd162
theorem rd125 : Rd Try.prog (Kd.slice 367 k367) (wfList Wf367) 125 := Rd.slice (by kernel_rfl) Try.underlying125 rd367
theorem rd132 : Rd Try.prog (Kd.slice 86 k86) (wfList Wf86) 132 := Rd.slice (by kernel_rfl) Try.underlying132 rd86
theorem rd133 : Rd Try.prog (Kd.slice 370 k370) (wfList Wf370) 133 := Rd.slice (by kernel_rfl) Try.underlying133 rd370
theorem rd142 : Rd Try.prog (Kd.slice 296 k296) (wfList Wf296) 142 := Rd.slice (by kernel_rfl) Try.underlying142 rd296
theorem rd149 : Rd Try.prog (Kd.slice 302 k302) (wfList Wf302) 149 := Rd.slice (by kernel_rfl) Try.underlying149 rd302
theorem rd169 : Rd Try.prog (Kd.slice 313 k313) (wfList Wf313) 169 := Rd.slice (by kernel_rfl) Try.underlying169 rd313
theorem rd180 : Rd Try.prog (Kd.int .u32) (wfInt .u32) 180 := Rd.int (by kernel_rfl) Try.underlying180
theorem rd181 : Rd Try.prog (Kd.int .u64) (wfInt .u64) 181 := Rd.int (by kernel_rfl) Try.underlying181
theorem rd218 : Rd Try.prog (Kd.slice 4 Kd.bool) (wfList wfBool) 218 := Rd.slice (by kernel_rfl) Try.underlying218 rd4
theorem rd410 : Rd Try.prog (Kd.slice 442 k442) (wfList Wf442) 410 := Rd.slice (by kernel_rfl) Try.underlying410 rd442
theorem rd419 : Rd Try.prog (Kd.int .u64) (wfInt .u64) 419 := Rd.int (by kernel_rfl) Try.underlying419
end Go.Proofs.Ytggpjapbcagebaa.Kinds

namespace Go.Proofs.Ytggpjapbcagebaa.KindsFnExactBatchOk
open Go.RowKit Go.Proofs.Ytggpjapbcagebaa.F Go.Proofs.Ytggpjapbcagebaa.Open Go.Proofs.YtggpjapbcagebaaW.PrintWords Go.Proofs.Ytggpjapbcagebaa.Kinds
set_option linter.unusedVariables false
def kp30 := (Kd.pair (Kd.int .i64) (Kd.pair (Kd.int .i64) (Kd.pair (Kd.int .i64) (Kd.pair (Kd.int .i64) (Kd.pair (Kd.int .i64) (Kd.pair (Kd.int .i64) (Kd.slice 324 k324)))))))
def wp30 := (wfPair (wfInt .i64) (wfPair (wfInt .i64) (wfPair (wfInt .i64) (wfPair (wfInt .i64) (wfPair (wfInt .i64) (wfPair (wfInt .i64) (wfList Wf324)))))))
theorem rdp30 : Rd Try.prog kp30 wp30 30 := (Rd.struct (by kernel_rfl) Try.underlying30 (RdF.cons rfl rd3 (RdF.cons rfl rd3 (RdF.cons rfl rd3 (RdF.cons rfl rd3 (RdF.cons rfl rd3 (RdF.cons rfl rd3 (RdF.last rfl rd28))))))))
theorem kp30_open {w : World} {b0 : Int} {b1 : Int} {b2 : Int} {b3 : Int} {b4 : Int} {b5 : Int} {b6 : List (S324)} {cs : List Value} (h : kp30.K w (b0, b1, b2, b3, b4, b5, b6) cs) : ∃ Ab6 cb6, cs = [.int .i64 b0, .int .i64 b1, .int .i64 b2, .int .i64 b3, .int .i64 b4, .int .i64 b5, .slice Ab6 b6.length cb6] ∧ b6.length ≤ cb6 ∧ Kd.C k324 w Ab6 b6.length b6 := by
  obtain ⟨_, _, rfl, rfl, ⟨_, _, rfl, rfl, ⟨_, _, rfl, rfl, ⟨_, _, rfl, rfl, ⟨_, _, rfl, rfl, ⟨_, _, rfl, rfl, ⟨Ab6, cb6, rfl, lb6, gb6⟩⟩⟩⟩⟩⟩⟩ := h
  exact ⟨Ab6, cb6, rfl, lb6, gb6⟩
end Go.Proofs.Ytggpjapbcagebaa.KindsFnExactBatchOk

namespace Go.Proofs.Ytggpjapbcagebaa.G
open Go.RowKit Go.Proofs.YtggpjapbcagebaaW.PrintWords Go.Proofs.YtggpjapbcagebaaW.PrintLast Go.Proofs.YtggpjapbcagebaaW.PrintMore
set_option linter.unusedVariables false

theorem wrapI {x : Int} (h0 : -9223372036854775808 ≤ x) (h : x ≤ 9223372036854775807) : wrap64 x = x := by
  unfold wrap64; omega
theorem wrapU {x : Int} (h0 : 0 ≤ x) (h : x < 18446744073709551616) : IntKind.u64.wrap x = x := by
  simp [IntKind.wrap, IntKind.bits, IntKind.signed]; omega
theorem tmod_pos {a b : Int} (h : 0 ≤ a) : Int.tmod a b = a % b := Int.tmod_eq_emod_of_nonneg h
theorem tdiv_pos {a b : Int} (h : 0 ≤ a) : Int.tdiv a b = a / b := Int.tdiv_eq_ediv_of_nonneg h
theorem wraps_i64 (n : Int) (h0 : 0 ≤ n) (h : n < 2 ^ 63) : IntKind.i64.wrap n = n := by rw [IntKind.wrap_i64]; omega
theorem wraps_u64 (n : Int) (h0 : 0 ≤ n) (h : n < 2 ^ 64) : IntKind.u64.wrap n = n := wrapU h0 (by omega)
theorem wfI {n : Int} (h : (Lit.int .i64 n).wf = true) : -9223372036854775808 ≤ n ∧ n ≤ 9223372036854775807 := by
  simp [Lit.wf, IntKind.min, IntKind.max, IntKind.bits, IntKind.signed] at h
  omega
theorem wf8 {n : Int} (h : (Lit.int .u8 n).wf = true) : 0 ≤ n ∧ n < 256 := by
  simp [Lit.wf, IntKind.min, IntKind.max, IntKind.bits, IntKind.signed] at h
  omega

/-- Bits: what stays of a byte's mask, of a number's last bit. -/
theorem and127 {c : Int} (h0 : 0 ≤ c) (h : c < 256) : Go.bits .and .u8 c 127 = c % 128 := bits_mask .u8 8 (by decide) wraps_u8 7 (by decide) c h0 h
theorem and1 {u : Int} (h0 : 0 ≤ u) (h : u < 18446744073709551616) : Go.bits .and .u64 u 1 = u % 2 := bits_mask .u64 64 (by decide) wraps_u64 1 (by decide) u h0 (by omega)
theorem xor_neg {n : Int} (h0 : 0 ≤ n) (h : n < 9223372036854775808) : Go.bits .xor .i64 (-1) n = -n - 1 := by
  obtain ⟨a, rfl⟩ := Int.eq_ofNat_of_zero_le h0
  have e : (BitVec.ofInt 64 (-1) ^^^ BitVec.ofInt 64 (a : Int)) = ~~~ (BitVec.ofNat 64 a) := by
    rw [show BitVec.ofInt 64 (-1) = BitVec.allOnes 64 by decide, BitVec.ofInt_natCast, BitVec.allOnes_xor]
  show IntKind.i64.wrap (((BitVec.ofInt 64 (-1) ^^^ BitVec.ofInt 64 (a : Int)).toNat : Nat) : Int) = _
  rw [e, BitVec.toNat_not, BitVec.toNat_ofNat, IntKind.wrap_i64]
  omega
theorem xor_all {u : Int} (h0 : 0 ≤ u) (h : u < 18446744073709551616) : Go.bits .xor .u64 18446744073709551615 u = 18446744073709551615 - u := by
  obtain ⟨a, rfl⟩ := Int.eq_ofNat_of_zero_le h0
  have e : (BitVec.ofInt 64 18446744073709551615 ^^^ BitVec.ofInt 64 (a : Int)) = ~~~ (BitVec.ofNat 64 a) := by
    rw [show BitVec.ofInt 64 18446744073709551615 = BitVec.allOnes 64 by decide, BitVec.ofInt_natCast, BitVec.allOnes_xor]
  show IntKind.u64.wrap (((BitVec.ofInt 64 18446744073709551615 ^^^ BitVec.ofInt 64 (a : Int)).toNat : Nat) : Int) = _
  rw [e, BitVec.toNat_not, BitVec.toNat_ofNat, wrapU (by omega) (by omega)]
  omega
set_option maxRecDepth 100000 in
theorem or128 {x : Int} (h0 : 0 ≤ x) (h : x < 256) : Go.bits .or .u8 x 128 = x % 128 + 128 := by
  obtain ⟨a, rfl⟩ := Int.eq_ofNat_of_zero_le h0
  have ha : a < 256 := by omega
  have h2 := (bits_nat .u8 8 (by decide) wraps_u8 a 128 (by omega) (by omega)).2
  have h3 : ∀ n, n < 256 → n ||| 128 = n % 128 + 128 := by decide
  rw [h3 a ha] at h2
  have h4 : Go.bits .or .u8 (a : Int) 128 = ((a % 128 + 128 : Nat) : Int) := h2
  rw [h4]
  omega

theorem getD_map {α β : Type} (f : α → β) (xs : List α) (i : Nat) (a : α) (b : β) (hi : i < xs.length) : (xs.map f).getD i b = f (xs.getD i a) := by
  rw [List.getD_eq_getElem?_getD, List.getD_eq_getElem?_getD, List.getElem?_map, List.getElem?_eq_getElem hi]; rfl
theorem getD_mem {α : Type} (xs : List α) (i : Nat) (a : α) (hi : i < xs.length) : xs.getD i a ∈ xs := by
  rw [List.getD_eq_getElem?_getD, List.getElem?_eq_getElem hi]; exact List.getElem_mem hi
theorem getD_set_self {α : Type} (xs : List α) (i : Nat) (v a : α) (hi : i < xs.length) : (xs.set i v).getD i a = v := by
  rw [List.getD_eq_getElem?_getD, List.getElem?_set_self hi]; rfl
theorem getD_set_ne {α : Type} (xs : List α) (i j : Nat) (v a : α) (h : i ≠ j) : (xs.set i v).getD j a = xs.getD j a := by
  rw [List.getD_eq_getElem?_getD, List.getElem?_set_ne h, List.getD_eq_getElem?_getD]
theorem ext_getD {α : Type} (xs ys : List α) (a : α) (hl : xs.length = ys.length) (h : ∀ j, j < xs.length → xs.getD j a = ys.getD j a) : xs = ys := by
  apply List.ext_getElem hl
  intro i h1 h2
  have := h i h1
  simpa [List.getD_eq_getElem?_getD, List.getElem?_eq_getElem h1, List.getElem?_eq_getElem h2] using this
theorem drop_cons {α : Type} (xs : List α) (i : Nat) (a : α) (hi : i < xs.length) : xs.drop i = xs.getD i a :: xs.drop (i + 1) := by
  rw [List.drop_eq_getElem_cons hi, List.getD_eq_getElem?_getD, List.getElem?_eq_getElem hi]; rfl
theorem take_snoc {α : Type} (xs : List α) (i : Nat) (a : α) (hi : i < xs.length) : xs.take (i + 1) = xs.take i ++ [xs.getD i a] := by
  rw [List.take_succ_eq_append_getElem hi, List.getD_eq_getElem?_getD, List.getElem?_eq_getElem hi]; rfl
theorem rd_getD (xs : List Int) (i : Nat) : rd xs (i : Int) = xs.getD i 0 := by unfold rd; rw [Int.toNat_natCast]

theorem ev_bind_ex {α β : Type} {g : Nat → Option α} {f : Nat → α → Option β} {a : α} {P : β → Prop} (h : Ev g a) (k : ∃ r, Ev (fun n => f n a) r ∧ P r) : ∃ r, Ev (fun n => (g n).bind (f n)) r ∧ P r := by
  obtain ⟨r, h1, h2⟩ := k
  exact ⟨r, Ev.bind h h1, h2⟩
theorem ev_step_ex {α : Type} {g f : Nat → Option α} {P : α → Prop} (h : ∀ k, g (k + 1) = f k) (k : ∃ r, Ev f r ∧ P r) : ∃ r, Ev g r ∧ P r := by
  obtain ⟨r, h1, h2⟩ := k
  exact ⟨r, Ev.step h h1, h2⟩
theorem ev_congr_ex {α : Type} {g f : Nat → Option α} {P : α → Prop} (h : ∀ k, g k = f k) (k : ∃ r, Ev f r ∧ P r) : ∃ r, Ev g r ∧ P r := by
  obtain ⟨r, h1, h2⟩ := k
  exact ⟨r, Ev.congr h h1, h2⟩
theorem allFrom {α : Type} (a : α) (xs : List α) (P : α → Prop) (h : ∀ j : Nat, j < xs.length → P (xs.getD j a)) : ∀ x ∈ xs, P x := by
  intro x hx
  obtain ⟨i, hi, rfl⟩ := List.getElem_of_mem hx
  have := h i hi
  rwa [List.getD_eq_getElem?_getD, List.getElem?_eq_getElem hi] at this

/-- A loop over places i, i + 1, .., n - 1, then the end. -/
theorem loop_up {ρ : Type} (n : Nat) (l : Int → Nat → Option ρ) (r : ρ) (step : ∀ i : Nat, i < n → Ev (l (i + 1 : Nat)) r → Ev (l i) r) (fin : Ev (l n) r) (i : Nat) (hi : i ≤ n) : Ev (l i) r := by
  obtain ⟨d, hd⟩ : ∃ d, i + d = n := ⟨n - i, by omega⟩
  induction d generalizing i with
  | zero => obtain rfl : i = n := by omega
            exact fin
  | succ d ih => exact step i (by omega) (ih (i + 1) (by omega) (by omega))
/-- A loop that lays one element after the other. -/
theorem loop_set {α β : Type} (a : α) (b : β) (conv : α → β) (xs : List α) (l : List β → Int → Nat → Option (List β))
    (step : ∀ (ys : List β) (i : Nat) (r : List β), i < xs.length → ys.length = xs.length → Ev (l (ys.set i (conv (xs.getD i a))) (i + 1 : Nat)) r → Ev (l ys i) r)
    (fin : ∀ ys : List β, ys.length = xs.length → Ev (l ys xs.length) ys) (ys : List β) (hl : ys.length = xs.length) : Ev (l ys (0 : Nat)) (xs.map conv) := by
  have key : ∀ (d : Nat) (ys : List β) (i : Nat), i + d = xs.length → ys.length = xs.length → (∀ j, j < i → ys.getD j b = conv (xs.getD j a)) → Ev (l ys i) (xs.map conv) := by
    intro d
    induction d with
    | zero =>
      intro ys i hi hl hy
      obtain rfl : i = xs.length := by omega
      have : ys = xs.map conv := ext_getD _ _ b (by simpa using hl) (fun j hj => by rw [hy j (by omega), getD_map conv xs j a b (by omega)])
      rw [← this]; exact fin ys hl
    | succ d ih =>
      intro ys i hi hl hy
      refine step ys i _ (by omega) hl (ih _ (i + 1) (by omega) (by simpa using hl) (fun j hj => ?_))
      by_cases e : i = j
      · subst e; rw [getD_set_self _ _ _ _ (by omega)]
      · rw [getD_set_ne _ _ _ _ _ e]; exact hy j (by omega)
  exact key xs.length ys 0 (by omega) hl (fun j hj => absurd hj (by omega))
/-- A loop that writes marks: whatever each element becomes, the number goes up. -/
theorem loop_mark {α : Type} (a : α) (cost : α → Nat) (Ok : α → α → Int → Prop) (xs : List α) (l : List α → Int → Int → Nat → Option (Int × List α))
    (step : ∀ (ys : List α) (i : Nat) (m : Int), i < xs.length → ys.length = xs.length → ys.getD i a = xs.getD i a → 0 ≤ m → ∃ y, Ok (xs.getD i a) y m ∧ ∀ r : Int × List α, Ev (l (ys.set i y) (m + cost (xs.getD i a)) (i + 1 : Nat)) r → Ev (l ys m i) r)
    (fin : ∀ (ys : List α) (m : Int), ys.length = xs.length → Ev (l ys m xs.length) (m, ys)) (m : Int) (hm : 0 ≤ m) :
    ∃ ys : List α, ys.length = xs.length ∧ (∀ j, j < xs.length → Ok (xs.getD j a) (ys.getD j a) (m + ((xs.take j).map cost).sum)) ∧ Ev (l xs m (0 : Nat)) (m + (xs.map cost).sum, ys) := by
  have key : ∀ (d : Nat) (ys : List α) (i : Nat), i + d = xs.length → ys.length = xs.length → (∀ j, i ≤ j → ys.getD j a = xs.getD j a) → (∀ j, j < i → Ok (xs.getD j a) (ys.getD j a) (m + ((xs.take j).map cost).sum)) →
      ∃ zs : List α, zs.length = xs.length ∧ (∀ j, j < xs.length → Ok (xs.getD j a) (zs.getD j a) (m + ((xs.take j).map cost).sum)) ∧ Ev (l ys (m + ((xs.take i).map cost).sum) i) (m + (xs.map cost).sum, zs) := by
    intro d
    induction d with
    | zero =>
      intro ys i hi hl hs hy
      obtain rfl : i = xs.length := by omega
      refine ⟨ys, hl, hy, ?_⟩
      rw [List.take_length]; exact fin ys _ hl
    | succ d ih =>
      intro ys i hi hl hs hy
      obtain ⟨y, hok, hst⟩ := step ys i (m + ((xs.take i).map cost).sum) (by omega) hl (hs i (Nat.le_refl _)) (by omega)
      obtain ⟨zs, h1, h2, h3⟩ := ih (ys.set i y) (i + 1) (by omega) (by simpa using hl) (fun j hj => by rw [getD_set_ne _ _ _ _ _ (by omega)]; exact hs j (by omega)) (fun j hj => by
        by_cases e : i = j
        · subst e; rw [getD_set_self _ _ _ _ (by omega)]; exact hok
        · rw [getD_set_ne _ _ _ _ _ e]; exact hy j (by omega))
      refine ⟨zs, h1, h2, hst _ ?_⟩
      rw [take_snoc xs i a (by omega)] at h3
      simpa [Int.add_assoc] using h3
  obtain ⟨zs, h1, h2, h3⟩ := key xs.length xs 0 (by omega) rfl (fun _ _ => rfl) (fun j hj => absurd hj (by omega))
  exact ⟨zs, h1, h2, by simpa using h3⟩
end Go.Proofs.Ytggpjapbcagebaa.G

namespace Go.Proofs.Ytggpjapbcagebaa.G
open Go.RowKit Go.Proofs.Ytggpjapbcagebaa.F Go.Proofs.YtggpjapbcagebaaW.PrintWords Go.Proofs.YtggpjapbcagebaaW.PrintLast Go.Proofs.YtggpjapbcagebaaW.PrintMore
set_option linter.unusedVariables false
set_option linter.unusedSimpArgs false

theorem rdt428 (xs : List S428) (i : Nat) : rd_T428 xs (i : Int) = xs.getD i z428 := rfl
def Lim428 (x : S428) : Prop := x.f0.size ≤ 9223372036854775807 ∧ x.f1.size ≤ 9223372036854775807
def Sm428 (x : S428) : Prop := x.f0.size ≤ 1048576 ∧ x.f1.size ≤ 1048576
theorem rdt325 (xs : List S325) (i : Nat) : rd_T325 xs (i : Int) = xs.getD i z325 := rfl
def Lim325 (x : S325) : Prop := x.f0.size ≤ 9223372036854775807 ∧ x.f1.size ≤ 9223372036854775807
def Sm325 (x : S325) : Prop := x.f0.size ≤ 1048576 ∧ x.f1.size ≤ 1048576
def convHead (x : S428) : S325 := ⟨x.f0, x.f1⟩
theorem szHead_ev (v0 : ByteArray) (v1 : ByteArray) (left : Int) (h0 : 0 ≤ left) (h1 : left ≤ 1048576) (wv0 : v0.size ≤ 9223372036854775807) (wv1 : v1.size ≤ 9223372036854775807) : ∃ r, Ev (fun k => laws_szHead.f v0 v1 left) r ∧ r ≤ left ∧ (0 ≤ r → v0.size ≤ 1048576 ∧ v1.size ≤ 1048576) := by
  unfold laws_szHead.f
  have ec1 : wrap64 (left - (v0.size : Int)) = left - (v0.size : Int) := wrapI (by omega) (by omega)
  by_cases c1 : left - (v0.size : Int) < 0
  · simp only [ec1, if_pos c1]; exact ⟨-1, Ev.now _, by omega, fun h => absurd h (by omega)⟩
  simp only [ec1, if_neg c1]
  have ec2 : wrap64 (left - (v0.size : Int) - (v1.size : Int)) = left - (v0.size : Int) - (v1.size : Int) := wrapI (by omega) (by omega)
  by_cases c2 : left - (v0.size : Int) - (v1.size : Int) < 0
  · simp only [ec2, if_pos c2]; exact ⟨-1, Ev.now _, by omega, fun h => absurd h (by omega)⟩
  simp only [ec2, if_neg c2]
  exact ⟨_, Ev.now _, by omega, fun h => ⟨(by omega), (by omega)⟩⟩
theorem szHeadS_l (xs : List (S428)) (w : xs.length ≤ 9223372036854775807 ∧ ∀ y ∈ xs, Lim428 y) (hn : xs.length ≤ 1048576) (d : Nat) : ∀ (i : Nat) (left : Int), i + d = xs.length → 0 ≤ left → left ≤ 1048576 → ∃ r, Ev (fun k => laws_szHeadS.l0 k xs left i) r ∧ r ≤ left ∧ (0 ≤ r → ∀ j : Nat, i ≤ j → j < xs.length → Sm428 (xs.getD j z428)) := by
  induction d with
  | zero =>
    intro i left hi h0 h1
    refine ev_step_ex (f := fun _ => some left) (fun k => by rw [laws_szHeadS.l0, if_neg (by omega)]) ⟨left, Ev.now _, Int.le_refl _, fun _ j h2 h3 => absurd h3 (by omega)⟩
  | succ d ih =>
    intro i left hi h0 h1
    have hw := w.2 (xs.getD i z428) (getD_mem xs i _ (by omega))
    obtain ⟨t, q, l, s⟩ := szHead_ev (xs.getD i z428).f0 (xs.getD i z428).f1 left h0 h1 hw.1 hw.2
    refine ev_step_ex (fun k => by rw [laws_szHeadS.l0, if_pos (by omega), if_pos (by omega)]) ?_
    refine ev_bind_ex q ?_
    by_cases c : t < 0
    · simp only [if_pos c]; exact ⟨-1, Ev.now _, by omega, fun h => absurd h (by omega)⟩
    simp only [if_neg c, wrapI (x := (i : Int) + 1) (by omega) (by omega)]
    obtain ⟨r, a, b, g⟩ := ih (i + 1) t (by omega) (by omega) (by omega)
    refine ⟨r, a, by omega, fun h j h2 h3 => ?_⟩
    by_cases e : i = j
    · subst e; exact ⟨(s (by omega)).1, (s (by omega)).2⟩
    · exact g h j (by omega) h3
theorem szHeadS_ev (xs : List (S428)) (left : Int) (h0 : 0 ≤ left) (h1 : left ≤ 1048576) (w : xs.length ≤ 9223372036854775807 ∧ ∀ y ∈ xs, Lim428 y) : ∃ r, Ev (fun k => laws_szHeadS.f k xs left) r ∧ r ≤ left ∧ (0 ≤ r → xs.length ≤ 1048576 ∧ ∀ y ∈ xs, Sm428 y) := by
  have hl := w.1
  have e : wrap64 (left - (xs.length : Int)) = left - (xs.length : Int) := wrapI (by omega) (by omega)
  unfold laws_szHeadS.f
  by_cases c : left - (xs.length : Int) < 0
  · simp only [e, if_pos c]; exact ⟨-1, Ev.now _, by omega, fun h => absurd h (by omega)⟩
  simp only [e, if_neg c]
  obtain ⟨r, a, b, g⟩ := szHeadS_l xs w (by omega) xs.length 0 (left - (xs.length : Int)) (by omega) (by omega) (by omega)
  exact ⟨r, a, by omega, fun h => ⟨by omega, allFrom z428 xs _ (fun j hj => g h j (Nat.zero_le _) hj)⟩⟩
theorem toHead_ev (v0 : ByteArray) (v1 : ByteArray) (wv0 : v0.size ≤ 1048576) (wv1 : v1.size ≤ 1048576) : Ev (fun k => laws_toHead.f v0 v1) (v0, v1) := by
  unfold laws_toHead.f
  exact Ev.now _
theorem toHeadS_ev (xs : List (S428)) (w : xs.length ≤ 1048576 ∧ ∀ y ∈ xs, Sm428 y) : Ev (fun k => laws_toHeadS.f k xs) (xs.map convHead) := by
  have hl := w.1
  refine Ev.congr (f := fun k => laws_toHeadS.l0 k xs (List.replicate xs.length z325) ((0 : Nat) : Int)) (fun k => by unfold laws_toHeadS.f; rw [if_pos (by omega), if_pos (by omega)]; rfl) ?_
  refine loop_set z428 z325 convHead xs (fun ys i k => laws_toHeadS.l0 k xs ys i) (fun ys i r hi hl h => ?_) (fun ys hl => ?_) _ (by simp)
  · have hw := w.2 (xs.getD i z428) (getD_mem xs i _ hi)
    refine Ev.step (fun k => by rw [laws_toHeadS.l0, if_pos (by omega), if_pos (by omega), rdt428]) (Ev.bind (toHead_ev (xs.getD i z428).f0 (xs.getD i z428).f1 hw.1 hw.2) ?_)
    simp only [if_pos (show (i : Int) < (ys.length : Int) by omega), wrapI (x := (i : Int) + 1) (by omega) (by omega), Int.toNat_natCast]
    exact h
  · exact Ev.step (f := fun _ => some ys) (fun k => by rw [laws_toHeadS.l0, if_neg (by omega)]) (Ev.now _)
theorem eqHead_ev (v0 : ByteArray) (v1 : ByteArray)  : Ev (fun k => laws_eqHead.f v0 v1 v0 v1) true := by
  unfold laws_eqHead.f
  simp only [if_true, bne_self_eq_false, Bool.false_eq_true, if_false]
  exact Ev.now _
theorem eqHeadS_ev (xs : List (S325)) (w : xs.length ≤ 1048576 ∧ ∀ y ∈ xs, Sm325 y) : Ev (fun k => laws_eqHeadS.f k xs xs) true := by
  have hl := w.1
  refine Ev.congr (f := fun k => laws_eqHeadS.l0 k xs xs ((0 : Nat) : Int)) (fun k => by unfold laws_eqHeadS.f; rw [if_pos rfl]; rfl) ?_
  refine loop_up xs.length (fun i k => laws_eqHeadS.l0 k xs xs i) true (fun i hi h => ?_) ?_ 0 (Nat.zero_le _)
  · have hw := w.2 (xs.getD i z325) (getD_mem xs i _ hi)
    refine Ev.step (fun k => by rw [laws_eqHeadS.l0, if_pos (by omega), if_pos (by omega), if_pos (by omega), rdt325]) (Ev.bind (eqHead_ev (xs.getD i z325).f0 (xs.getD i z325).f1 ) ?_)
    simp only [if_true, wrapI (x := (i : Int) + 1) (by omega) (by omega)]
    exact h
  · exact Ev.step (f := fun _ => some true) (fun k => by rw [laws_eqHeadS.l0, if_neg (by omega)]) (Ev.now _)

end Go.Proofs.Ytggpjapbcagebaa.G

namespace Go.Proofs.Ytggpjapbcagebaa.G
open Go.RowKit Go.Proofs.Ytggpjapbcagebaa.F Go.Proofs.YtggpjapbcagebaaW.PrintWords Go.Proofs.YtggpjapbcagebaaW.PrintLast Go.Proofs.YtggpjapbcagebaaW.PrintMore
set_option linter.unusedVariables false
set_option linter.unusedSimpArgs false

theorem rdt324 (xs : List S324) (i : Nat) : rd_T324 xs (i : Int) = xs.getD i z324 := rfl
def Lim324 (x : S324) : Prop := x.f2.size ≤ 9223372036854775807 ∧ x.f4.size ≤ 9223372036854775807 ∧ (x.f5.length ≤ 9223372036854775807 ∧ ∀ y ∈ x.f5, Lim428 y)
def Sm324 (x : S324) : Prop := x.f2.size ≤ 1048576 ∧ x.f4.size ≤ 1048576 ∧ (x.f5.length ≤ 1048576 ∧ ∀ y ∈ x.f5, Sm428 y)
theorem rdt118 (xs : List S118) (i : Nat) : rd_T118 xs (i : Int) = xs.getD i z118 := rfl
def Lim118 (x : S118) : Prop := x.f2.size ≤ 9223372036854775807 ∧ x.f4.size ≤ 9223372036854775807 ∧ (x.f5.length ≤ 9223372036854775807 ∧ ∀ y ∈ x.f5, Lim325 y)
def Sm118 (x : S118) : Prop := x.f2.size ≤ 1048576 ∧ x.f4.size ≤ 1048576 ∧ (x.f5.length ≤ 1048576 ∧ ∀ y ∈ x.f5, Sm325 y)
def convRecord (x : S324) : S118 := ⟨x.f0, x.f1, x.f2, x.f3, x.f4, (x.f5.map convHead)⟩
theorem szRecord_ev (v0 : Int) (v1 : Bool) (v2 : ByteArray) (v3 : Bool) (v4 : ByteArray) (v5 : List (S428)) (left : Int) (h0 : 0 ≤ left) (h1 : left ≤ 1048576) (wv2 : v2.size ≤ 9223372036854775807) (wv4 : v4.size ≤ 9223372036854775807) (wv5 : v5.length ≤ 9223372036854775807 ∧ ∀ y ∈ v5, Lim428 y) : ∃ r, Ev (fun k => laws_szRecord.f k v0 v1 v2 v3 v4 v5 left) r ∧ r ≤ left ∧ (0 ≤ r → v2.size ≤ 1048576 ∧ v4.size ≤ 1048576 ∧ (v5.length ≤ 1048576 ∧ ∀ y ∈ v5, Sm428 y)) := by
  unfold laws_szRecord.f
  have ec1 : wrap64 (left - (v2.size : Int)) = left - (v2.size : Int) := wrapI (by omega) (by omega)
  by_cases c1 : left - (v2.size : Int) < 0
  · simp only [ec1, if_pos c1]; exact ⟨-1, Ev.now _, by omega, fun h => absurd h (by omega)⟩
  simp only [ec1, if_neg c1]
  have ec2 : wrap64 (left - (v2.size : Int) - (v4.size : Int)) = left - (v2.size : Int) - (v4.size : Int) := wrapI (by omega) (by omega)
  by_cases c2 : left - (v2.size : Int) - (v4.size : Int) < 0
  · simp only [ec2, if_pos c2]; exact ⟨-1, Ev.now _, by omega, fun h => absurd h (by omega)⟩
  simp only [ec2, if_neg c2]
  obtain ⟨rc3, qc3, lc3, sc3⟩ := szHeadS_ev v5 (left - (v2.size : Int) - (v4.size : Int)) (by omega) (by omega) wv5
  refine ev_bind_ex qc3 ?_
  by_cases c3 : rc3 < 0
  · simp only [if_pos c3]; exact ⟨-1, Ev.now _, by omega, fun h => absurd h (by omega)⟩
  simp only [if_neg c3]
  exact ⟨_, Ev.now _, by omega, fun h => ⟨(by omega), (by omega), (sc3 (by omega))⟩⟩
theorem szRecordS_l (xs : List (S324)) (w : xs.length ≤ 9223372036854775807 ∧ ∀ y ∈ xs, Lim324 y) (hn : xs.length ≤ 1048576) (d : Nat) : ∀ (i : Nat) (left : Int), i + d = xs.length → 0 ≤ left → left ≤ 1048576 → ∃ r, Ev (fun k => laws_szRecordS.l0 k xs left i) r ∧ r ≤ left ∧ (0 ≤ r → ∀ j : Nat, i ≤ j → j < xs.length → Sm324 (xs.getD j z324)) := by
  induction d with
  | zero =>
    intro i left hi h0 h1
    refine ev_step_ex (f := fun _ => some left) (fun k => by rw [laws_szRecordS.l0, if_neg (by omega)]) ⟨left, Ev.now _, Int.le_refl _, fun _ j h2 h3 => absurd h3 (by omega)⟩
  | succ d ih =>
    intro i left hi h0 h1
    have hw := w.2 (xs.getD i z324) (getD_mem xs i _ (by omega))
    obtain ⟨t, q, l, s⟩ := szRecord_ev (xs.getD i z324).f0 (xs.getD i z324).f1 (xs.getD i z324).f2 (xs.getD i z324).f3 (xs.getD i z324).f4 (xs.getD i z324).f5 left h0 h1 hw.1 hw.2.1 hw.2.2
    refine ev_step_ex (fun k => by rw [laws_szRecordS.l0, if_pos (by omega), if_pos (by omega)]) ?_
    refine ev_bind_ex q ?_
    by_cases c : t < 0
    · simp only [if_pos c]; exact ⟨-1, Ev.now _, by omega, fun h => absurd h (by omega)⟩
    simp only [if_neg c, wrapI (x := (i : Int) + 1) (by omega) (by omega)]
    obtain ⟨r, a, b, g⟩ := ih (i + 1) t (by omega) (by omega) (by omega)
    refine ⟨r, a, by omega, fun h j h2 h3 => ?_⟩
    by_cases e : i = j
    · subst e; exact ⟨(s (by omega)).1, (s (by omega)).2.1, (s (by omega)).2.2⟩
    · exact g h j (by omega) h3
theorem szRecordS_ev (xs : List (S324)) (left : Int) (h0 : 0 ≤ left) (h1 : left ≤ 1048576) (w : xs.length ≤ 9223372036854775807 ∧ ∀ y ∈ xs, Lim324 y) : ∃ r, Ev (fun k => laws_szRecordS.f k xs left) r ∧ r ≤ left ∧ (0 ≤ r → xs.length ≤ 1048576 ∧ ∀ y ∈ xs, Sm324 y) := by
  have hl := w.1
  have e : wrap64 (left - (xs.length : Int)) = left - (xs.length : Int) := wrapI (by omega) (by omega)
  unfold laws_szRecordS.f
  by_cases c : left - (xs.length : Int) < 0
  · simp only [e, if_pos c]; exact ⟨-1, Ev.now _, by omega, fun h => absurd h (by omega)⟩
  simp only [e, if_neg c]
  obtain ⟨r, a, b, g⟩ := szRecordS_l xs w (by omega) xs.length 0 (left - (xs.length : Int)) (by omega) (by omega) (by omega)
  exact ⟨r, a, by omega, fun h => ⟨by omega, allFrom z324 xs _ (fun j hj => g h j (Nat.zero_le _) hj)⟩⟩
theorem toRecord_ev (v0 : Int) (v1 : Bool) (v2 : ByteArray) (v3 : Bool) (v4 : ByteArray) (v5 : List (S428)) (wv2 : v2.size ≤ 1048576) (wv4 : v4.size ≤ 1048576) (wv5 : v5.length ≤ 1048576 ∧ ∀ y ∈ v5, Sm428 y) : Ev (fun k => laws_toRecord.f k v0 v1 v2 v3 v4 v5) (v0, v1, v2, v3, v4, (v5.map convHead)) := by
  unfold laws_toRecord.f
  refine Ev.bind (toHeadS_ev v5 wv5) ?_
  exact Ev.now _
theorem toRecordS_ev (xs : List (S324)) (w : xs.length ≤ 1048576 ∧ ∀ y ∈ xs, Sm324 y) : Ev (fun k => laws_toRecordS.f k xs) (xs.map convRecord) := by
  have hl := w.1
  refine Ev.congr (f := fun k => laws_toRecordS.l0 k xs (List.replicate xs.length z118) ((0 : Nat) : Int)) (fun k => by unfold laws_toRecordS.f; rw [if_pos (by omega), if_pos (by omega)]; rfl) ?_
  refine loop_set z324 z118 convRecord xs (fun ys i k => laws_toRecordS.l0 k xs ys i) (fun ys i r hi hl h => ?_) (fun ys hl => ?_) _ (by simp)
  · have hw := w.2 (xs.getD i z324) (getD_mem xs i _ hi)
    refine Ev.step (fun k => by rw [laws_toRecordS.l0, if_pos (by omega), if_pos (by omega), rdt324]) (Ev.bind (toRecord_ev (xs.getD i z324).f0 (xs.getD i z324).f1 (xs.getD i z324).f2 (xs.getD i z324).f3 (xs.getD i z324).f4 (xs.getD i z324).f5 hw.1 hw.2.1 hw.2.2) ?_)
    simp only [if_pos (show (i : Int) < (ys.length : Int) by omega), wrapI (x := (i : Int) + 1) (by omega) (by omega), Int.toNat_natCast]
    exact h
  · exact Ev.step (f := fun _ => some ys) (fun k => by rw [laws_toRecordS.l0, if_neg (by omega)]) (Ev.now _)
theorem eqRecord_ev (v0 : Int) (v1 : Bool) (v2 : ByteArray) (v3 : Bool) (v4 : ByteArray) (v5 : List (S325)) (wv5 : v5.length ≤ 1048576 ∧ ∀ y ∈ v5, Sm325 y) : Ev (fun k => laws_eqRecord.f k v0 v1 v2 v3 v4 v5 v0 v1 v2 v3 v4 v5) true := by
  unfold laws_eqRecord.f
  simp only [if_true, bne_self_eq_false, Bool.false_eq_true, if_false]
  refine Ev.bind (eqHeadS_ev v5 wv5) ?_
  simp only [if_true, bne_self_eq_false, Bool.false_eq_true, if_false]
  exact Ev.now _
theorem eqRecordS_ev (xs : List (S118)) (w : xs.length ≤ 1048576 ∧ ∀ y ∈ xs, Sm118 y) : Ev (fun k => laws_eqRecordS.f k xs xs) true := by
  have hl := w.1
  refine Ev.congr (f := fun k => laws_eqRecordS.l0 k xs xs ((0 : Nat) : Int)) (fun k => by unfold laws_eqRecordS.f; rw [if_pos rfl]; rfl) ?_
  refine loop_up xs.length (fun i k => laws_eqRecordS.l0 k xs xs i) true (fun i hi h => ?_) ?_ 0 (Nat.zero_le _)
  · have hw := w.2 (xs.getD i z118) (getD_mem xs i _ hi)
    refine Ev.step (fun k => by rw [laws_eqRecordS.l0, if_pos (by omega), if_pos (by omega), if_pos (by omega), rdt118]) (Ev.bind (eqRecord_ev (xs.getD i z118).f0 (xs.getD i z118).f1 (xs.getD i z118).f2 (xs.getD i z118).f3 (xs.getD i z118).f4 (xs.getD i z118).f5 hw.2.2) ?_)
    simp only [if_true, wrapI (x := (i : Int) + 1) (by omega) (by omega)]
    exact h
  · exact Ev.step (f := fun _ => some true) (fun k => by rw [laws_eqRecordS.l0, if_neg (by omega)]) (Ev.now _)

end Go.Proofs.Ytggpjapbcagebaa.G

namespace Go.Proofs.Ytggpjapbcagebaa.G
open Go.RowKit Go.Proofs.Ytggpjapbcagebaa.F Go.Proofs.YtggpjapbcagebaaW.PrintWords Go.Proofs.YtggpjapbcagebaaW.PrintLast Go.Proofs.YtggpjapbcagebaaW.PrintMore
set_option linter.unusedVariables false
set_option linter.unusedSimpArgs false

theorem rdt30 (xs : List S30) (i : Nat) : rd_T30 xs (i : Int) = xs.getD i z30 := rfl
def Lim30 (x : S30) : Prop := (x.f6.length ≤ 9223372036854775807 ∧ ∀ y ∈ x.f6, Lim324 y)
def Sm30 (x : S30) : Prop := (x.f6.length ≤ 1048576 ∧ ∀ y ∈ x.f6, Sm324 y)
theorem rdt35 (xs : List S35) (i : Nat) : rd_T35 xs (i : Int) = xs.getD i z35 := rfl
def Lim35 (x : S35) : Prop := (x.f6.length ≤ 9223372036854775807 ∧ ∀ y ∈ x.f6, Lim118 y)
def Sm35 (x : S35) : Prop := (x.f6.length ≤ 1048576 ∧ ∀ y ∈ x.f6, Sm118 y)
def convBatch (x : S30) : S35 := ⟨x.f0, x.f1, x.f2, x.f3, x.f4, x.f5, (x.f6.map convRecord)⟩
theorem szBatch_ev (v0 : Int) (v1 : Int) (v2 : Int) (v3 : Int) (v4 : Int) (v5 : Int) (v6 : List (S324)) (left : Int) (h0 : 0 ≤ left) (h1 : left ≤ 1048576) (wv6 : v6.length ≤ 9223372036854775807 ∧ ∀ y ∈ v6, Lim324 y) : ∃ r, Ev (fun k => laws_szBatch.f k v0 v1 v2 v3 v4 v5 v6 left) r ∧ r ≤ left ∧ (0 ≤ r → (v6.length ≤ 1048576 ∧ ∀ y ∈ v6, Sm324 y)) := by
  unfold laws_szBatch.f
  obtain ⟨rc1, qc1, lc1, sc1⟩ := szRecordS_ev v6 (left) (by omega) (by omega) wv6
  refine ev_bind_ex qc1 ?_
  by_cases c1 : rc1 < 0
  · simp only [if_pos c1]; exact ⟨-1, Ev.now _, by omega, fun h => absurd h (by omega)⟩
  simp only [if_neg c1]
  exact ⟨_, Ev.now _, by omega, fun h => (sc1 (by omega))⟩
theorem toBatch_ev (v0 : Int) (v1 : Int) (v2 : Int) (v3 : Int) (v4 : Int) (v5 : Int) (v6 : List (S324)) (wv6 : v6.length ≤ 1048576 ∧ ∀ y ∈ v6, Sm324 y) : Ev (fun k => laws_toBatch.f k v0 v1 v2 v3 v4 v5 v6) (v0, v1, v2, v3, v4, v5, (v6.map convRecord)) := by
  unfold laws_toBatch.f
  refine Ev.bind (toRecordS_ev v6 wv6) ?_
  exact Ev.now _
theorem eqBatch_ev (v0 : Int) (v1 : Int) (v2 : Int) (v3 : Int) (v4 : Int) (v5 : Int) (v6 : List (S118)) (wv6 : v6.length ≤ 1048576 ∧ ∀ y ∈ v6, Sm118 y) : Ev (fun k => laws_eqBatch.f k v0 v1 v2 v3 v4 v5 v6 v0 v1 v2 v3 v4 v5 v6) true := by
  unfold laws_eqBatch.f
  simp only [if_true, bne_self_eq_false, Bool.false_eq_true, if_false]
  refine Ev.bind (eqRecordS_ev v6 wv6) ?_
  simp only [if_true, bne_self_eq_false, Bool.false_eq_true, if_false]
  exact Ev.now _

end Go.Proofs.Ytggpjapbcagebaa.G

namespace Go.Proofs.Ytggpjapbcagebaa.G
open Go.RowKit Go.Proofs.Ytggpjapbcagebaa.F Go.Proofs.YtggpjapbcagebaaW.PrintWords Go.Proofs.YtggpjapbcagebaaW.PrintLast Go.Proofs.YtggpjapbcagebaaW.PrintMore
theorem l1In_eq (a b c : Int) : spec_l1In.f a b c = some (decide (b ≤ a ∧ a ≤ c)) := by
  unfold spec_l1In.f
  by_cases h : a ≥ b
  · rw [if_pos h]; congr 1
    by_cases h2 : a ≤ c
    · rw [decide_eq_true h2, decide_eq_true ⟨h, h2⟩]
    · rw [decide_eq_false h2, decide_eq_false (fun x => h2 x.2)]
  · rw [if_neg h, decide_eq_false (fun x => h x.1)]
theorem within_eq (a b c : Int) : impl_within.f a b c = some (decide (b ≤ a ∧ a ≤ c)) := by
  unfold impl_within.f
  by_cases h : a ≥ b
  · rw [if_pos h]; congr 1
    by_cases h2 : a ≤ c
    · rw [decide_eq_true h2, decide_eq_true ⟨h, h2⟩]
    · rw [decide_eq_false h2, decide_eq_false (fun x => h2 x.2)]
  · rw [if_neg h, decide_eq_false (fun x => h x.1)]
end Go.Proofs.Ytggpjapbcagebaa.G

namespace Go.Proofs.Ytggpjapbcagebaa.G
open Go.RowKit Go.Proofs.Ytggpjapbcagebaa.F Go.Proofs.YtggpjapbcagebaaW.PrintWords Go.Proofs.YtggpjapbcagebaaW.PrintLast Go.Proofs.YtggpjapbcagebaaW.PrintMore
set_option linter.unusedVariables false
set_option linter.unusedSimpArgs false

theorem textOk_eq (s : ByteArray) : impl_textOk.f s = some (decide (s.size ≤ 100)) := by
  unfold impl_textOk.f; congr 1
  by_cases h : s.size ≤ 100
  · rw [decide_eq_true h, decide_eq_true (by omega)]
  · rw [decide_eq_false h, decide_eq_false (by omega)]
theorem timeOk_eq (n : Int) : impl_timeOk.f n = some (decide (0 ≤ n ∧ n ≤ 1000000000000)) := by
  unfold impl_timeOk.f
  by_cases h : n ≥ 0
  · rw [if_pos h]; congr 1
    by_cases h2 : n ≤ 1000000000000
    · rw [decide_eq_true h2, decide_eq_true ⟨h, h2⟩]
    · rw [decide_eq_false h2, decide_eq_false (fun x => h2 x.2)]
  · rw [if_neg h, decide_eq_false (fun x => h x.1)]
theorem toList_nil (s : ByteArray) : s.toList = ([] : List UInt8) ↔ s.size = 0 := by
  rw [ByteArray.toList_eq]
  constructor
  · intro h; have := congrArg List.length h; simpa using this
  · intro h; exact List.eq_nil_of_length_eq_zero (by simpa using h)

/-- A head that is right. -/
def headOk (h : S325) : Bool := decide (1 ≤ h.f0.size ∧ h.f0.size ≤ 100 ∧ h.f1.size ≤ 100)
/-- A record that is right, by its fields. -/
def recordOk (t : Int) (keyed : Bool) (key : ByteArray) (gone : Bool) (value : ByteArray) (heads : List S325) : Bool :=
  decide (0 ≤ t ∧ t ≤ 1000000000000) && decide (key.size ≤ 100) && decide (value.size ≤ 100) && decide (heads.length ≤ 3) && (keyed || decide (key.size = 0)) && (!gone || decide (value.size = 0)) && heads.all headOk

theorem heads_all (xs : List S325) (i : Nat) (hi : i < xs.length) : (xs.drop i).all headOk = (headOk (xs.getD i z325) && (xs.drop (i + 1)).all headOk) := by
  rw [drop_cons xs i z325 hi, List.all_cons]
theorem specHeads_l (xs : List S325) (hn : xs.length ≤ 1048576) (a b c d e) (m : Nat) : ∀ i : Nat, i + m = xs.length → Ev (fun k => spec_RecordOk.l0 k (i : Int) a b c d e xs) ((xs.drop i).all headOk) := by
  induction m with
  | zero =>
    intro i hi
    refine Ev.step (f := fun _ => some true) (fun k => by rw [spec_RecordOk.l0, if_neg (by omega)]) ?_
    rw [List.drop_of_length_le (by omega)]; exact Ev.now _
  | succ m ih =>
    intro i hi
    have ew : wrap64 ((i : Int) + 1) = ((i + 1 : Nat) : Int) := by rw [wrapI (by omega) (by omega)]; omega
    have h := ih (i + 1) (by omega)
    have hr : rd_T325 xs (i : Int) = xs.getD i z325 := rfl
    rw [heads_all xs i (by omega)]
    generalize xs.getD i z325 = x at hr
    by_cases h1 : x.f0.size = 0
    · have : headOk x = false := decide_eq_false (by omega)
      rw [this, Bool.false_and]
      exact Ev.step (f := fun _ => some false) (fun k => by rw [spec_RecordOk.l0, if_pos (by omega), if_pos (by omega), hr, if_pos ((toList_nil _).2 h1)]) (Ev.now _)
    · have hne : ¬ x.f0.toList = ([] : List UInt8) := fun h => h1 ((toList_nil _).1 h)
      by_cases h2 : x.f0.size ≤ 100
      · by_cases h3 : x.f1.size ≤ 100
        · have : headOk x = true := decide_eq_true (by omega)
          rw [this, Bool.true_and]
          exact Ev.step (fun k => by rw [spec_RecordOk.l0, if_pos (by omega), if_pos (by omega), hr, if_neg hne, if_neg (by omega), if_neg (by omega), ew]) h
        · have : headOk x = false := decide_eq_false (by omega)
          rw [this, Bool.false_and]
          exact Ev.step (f := fun _ => some false) (fun k => by rw [spec_RecordOk.l0, if_pos (by omega), if_pos (by omega), hr, if_neg hne, if_neg (by omega), if_pos (by omega)]) (Ev.now _)
      · have : headOk x = false := decide_eq_false (by omega)
        rw [this, Bool.false_and]
        exact Ev.step (f := fun _ => some false) (fun k => by rw [spec_RecordOk.l0, if_pos (by omega), if_pos (by omega), hr, if_neg hne, if_pos (by omega)]) (Ev.now _)
theorem implHeads_l (xs : List S325) (hn : xs.length ≤ 1048576) (m : Nat) : ∀ i : Nat, i + m = xs.length → Ev (fun k => impl_RecordOk.l0 k xs (xs.length : Int) (i : Int)) ((xs.drop i).all headOk) := by
  induction m with
  | zero =>
    intro i hi
    refine Ev.step (f := fun _ => some true) (fun k => by rw [impl_RecordOk.l0, if_neg (by omega)]) ?_
    rw [List.drop_of_length_le (by omega)]; exact Ev.now _
  | succ m ih =>
    intro i hi
    have ew : wrap64 ((i : Int) + 1) = ((i + 1 : Nat) : Int) := by rw [wrapI (by omega) (by omega)]; omega
    have h := ih (i + 1) (by omega)
    have hr : rd_T325 xs (i : Int) = xs.getD i z325 := rfl
    rw [heads_all xs i (by omega)]
    generalize xs.getD i z325 = x at hr
    by_cases h1 : x.f0.size = 0
    · have : headOk x = false := decide_eq_false (by omega)
      rw [this, Bool.false_and]
      exact Ev.step (f := fun _ => some false) (fun k => by rw [impl_RecordOk.l0, if_pos (by omega), if_pos (by omega), if_pos (by omega), hr, if_pos ((toList_nil _).2 h1)]) (Ev.now _)
    · have hne : ¬ x.f0.toList = ([] : List UInt8) := fun h => h1 ((toList_nil _).1 h)
      by_cases h2 : x.f0.size ≤ 100
      · by_cases h3 : x.f1.size ≤ 100
        · have : headOk x = true := decide_eq_true (by omega)
          rw [this, Bool.true_and]
          exact Ev.step (fun k => by rw [impl_RecordOk.l0, if_pos (by omega), if_pos (by omega), if_pos (by omega), hr, if_neg hne, textOk_eq, decide_eq_true h2, textOk_eq, decide_eq_true h3]; simp only [Option.bind_some, if_true]; rw [ew]) h
        · have : headOk x = false := decide_eq_false (by omega)
          rw [this, Bool.false_and]
          exact Ev.step (f := fun _ => some false) (fun k => by rw [impl_RecordOk.l0, if_pos (by omega), if_pos (by omega), if_pos (by omega), hr, if_neg hne, textOk_eq, decide_eq_true h2, textOk_eq, decide_eq_false h3]; rfl) (Ev.now _)
      · have : headOk x = false := decide_eq_false (by omega)
        rw [this, Bool.false_and]
        exact Ev.step (f := fun _ => some false) (fun k => by rw [impl_RecordOk.l0, if_pos (by omega), if_pos (by omega), if_pos (by omega), hr, if_neg hne, textOk_eq, decide_eq_false h2]; rfl) (Ev.now _)

theorem specRecordOk_ev (t : Int) (keyed : Bool) (key : ByteArray) (gone : Bool) (value : ByteArray) (heads : List S325) (hn : heads.length ≤ 1048576) :
    Ev (fun k => spec_RecordOk.f k t keyed key gone value heads) (recordOk t keyed key gone value heads) := by
  have hl : Ev (fun k => spec_RecordOk.l0 k 0 t keyed key gone value heads) ((heads.drop 0).all headOk) := specHeads_l heads hn t keyed key gone value heads.length 0 (by omega)
  rw [List.drop_zero] at hl
  have h1 : Ev (fun k => spec_RecordOk.j1 k true t keyed key gone value heads) false := Ev.step (f := fun _ => some false) (fun k => by rw [spec_RecordOk.j1, if_pos rfl]) (Ev.now _)
  have h0 : Ev (fun k => spec_RecordOk.j1 k false t keyed key gone value heads) (heads.all headOk) := Ev.step (fun k => by rw [spec_RecordOk.j1, if_neg (by decide)]) hl
  have hb (b : Bool) (r : Bool) (p : b = true → r = false) (q : b = false → r = heads.all headOk) : Ev (fun k => spec_RecordOk.j1 k b t keyed key gone value heads) r := by
    cases b
    · rw [q rfl]; exact h0
    · rw [p rfl]; exact h1
  have hj : Ev (fun k => spec_RecordOk.j0 k true t keyed key gone value heads) false := Ev.step (f := fun _ => some false) (fun k => by rw [spec_RecordOk.j0, if_pos rfl]) (Ev.now _)
  have ev : (value.toList != ([] : List UInt8)) = !(decide (value.size = 0)) := by
    by_cases h : value.size = 0
    · rw [decide_eq_true h, (toList_nil _).2 h]; rfl
    · rw [decide_eq_false h]; simpa using fun h' => h ((toList_nil _).1 h')
  have hj0 : Ev (fun k => spec_RecordOk.j0 k false t keyed key gone value heads) ((keyed || decide (key.size = 0)) && (!gone || decide (value.size = 0)) && heads.all headOk) := by
    cases keyed <;> cases gone
    all_goals (by_cases hk : key.size = 0 <;> by_cases hv : value.size = 0)
    all_goals first
      | (refine Ev.step (fun k => by rw [spec_RecordOk.j0, if_neg (by decide), if_pos rfl, if_pos rfl, ev]) (hb _ _ ?_ ?_) <;> simp [hk, hv])
      | (refine Ev.step (fun k => by rw [spec_RecordOk.j0, if_neg (by decide), if_pos rfl, if_neg (by decide)]) (hb _ _ ?_ ?_) <;> simp [hk, hv])
      | (refine Ev.step (fun k => by rw [spec_RecordOk.j0, if_neg (by decide), if_neg (by decide), if_pos ((toList_nil _).2 hk), if_pos rfl, ev]) (hb _ _ ?_ ?_) <;> simp [hk, hv])
      | (refine Ev.step (fun k => by rw [spec_RecordOk.j0, if_neg (by decide), if_neg (by decide), if_pos ((toList_nil _).2 hk), if_neg (by decide)]) (hb _ _ ?_ ?_) <;> simp [hk, hv])
      | (refine Ev.step (fun k => by rw [spec_RecordOk.j0, if_neg (by decide), if_neg (by decide), if_neg (fun h => hk ((toList_nil _).1 h))]) (hb _ _ ?_ ?_) <;> simp [hk, hv])
  unfold spec_RecordOk.f recordOk
  rw [l1In_eq]
  simp only [Option.bind_some]
  by_cases ht : 0 ≤ t ∧ t ≤ 1000000000000
  · by_cases hk : key.size ≤ 100
    · by_cases hv : value.size ≤ 100
      · simp only [decide_eq_true ht, decide_eq_true hk, decide_eq_true hv, if_true, if_neg (show ¬ (key.size : Int) > 100 by omega), if_neg (show ¬ (value.size : Int) > 100 by omega), Bool.true_and]
        by_cases hh : heads.length ≤ 3
        · simp only [decide_eq_false (show ¬ (heads.length : Int) > 3 by omega), decide_eq_true hh, Bool.true_and]
          exact hj0
        · simp only [decide_eq_true (show (heads.length : Int) > 3 by omega), decide_eq_false hh, Bool.false_and]
          exact hj
      · simp only [decide_eq_true ht, decide_eq_true hk, decide_eq_false hv, if_true, if_neg (show ¬ (key.size : Int) > 100 by omega), if_pos (show (value.size : Int) > 100 by omega), Bool.true_and, Bool.false_and]
        exact hj
    · simp only [decide_eq_true ht, decide_eq_false hk, if_true, if_pos (show (key.size : Int) > 100 by omega), Bool.true_and, Bool.false_and]
      exact hj
  · simp only [decide_eq_false ht, Bool.false_eq_true, if_false, Bool.false_and]
    exact hj
theorem implRecordOk_ev (t : Int) (keyed : Bool) (key : ByteArray) (gone : Bool) (value : ByteArray) (heads : List S325) (hn : heads.length ≤ 1048576) :
    Ev (fun k => impl_RecordOk.f k t keyed key gone value heads) (recordOk t keyed key gone value heads) := by
  have hl : Ev (fun k => impl_RecordOk.l0 k heads (heads.length : Int) 0) ((heads.drop 0).all headOk) := implHeads_l heads hn heads.length 0 (by omega)
  rw [List.drop_zero] at hl
  have hj : Ev (fun k => impl_RecordOk.j0 k true t keyed key gone value heads) false := Ev.step (f := fun _ => some false) (fun k => by rw [impl_RecordOk.j0, if_pos rfl]) (Ev.now _)
  have hj0 : Ev (fun k => impl_RecordOk.j0 k (decide ((heads.length : Int) > 3)) t keyed key gone value heads) (decide (heads.length ≤ 3) && heads.all headOk) := by
    by_cases hh : heads.length ≤ 3
    · rw [decide_eq_false (show ¬ (heads.length : Int) > 3 by omega), decide_eq_true hh, Bool.true_and]
      exact Ev.step (fun k => by rw [impl_RecordOk.j0, if_neg (by decide)]) hl
    · rw [decide_eq_true (show (heads.length : Int) > 3 by omega), decide_eq_false hh, Bool.false_and]
      exact hj
  have hin : Ev (fun k => (impl_textOk.f key).bind fun t212 => if t212 = true then (impl_textOk.f value).bind fun t213 => if t213 = true then impl_RecordOk.j0 k (decide ((heads.length : Int) > 3)) t keyed key gone value heads else impl_RecordOk.j0 k true t keyed key gone value heads else impl_RecordOk.j0 k true t keyed key gone value heads) (decide (key.size ≤ 100) && decide (value.size ≤ 100) && (decide (heads.length ≤ 3) && heads.all headOk)) := by
    rw [textOk_eq, textOk_eq]
    simp only [Option.bind_some]
    by_cases hk : key.size ≤ 100
    · by_cases hv : value.size ≤ 100
      · simpa only [decide_eq_true hk, decide_eq_true hv, if_true, Bool.true_and] using hj0
      · simpa only [decide_eq_true hk, decide_eq_false hv, if_true, Bool.true_and, Bool.false_and, Bool.false_eq_true, if_false] using hj
    · simpa only [decide_eq_false hk, Bool.false_and, Bool.false_eq_true, if_false] using hj
  unfold impl_RecordOk.f
  rw [timeOk_eq]
  simp only [Option.bind_some]
  have e : recordOk t keyed key gone value heads = (decide (0 ≤ t ∧ t ≤ 1000000000000) && ((keyed || decide (key.size = 0)) && ((!gone || decide (value.size = 0)) && (decide (key.size ≤ 100) && decide (value.size ≤ 100) && (decide (heads.length ≤ 3) && heads.all headOk))))) := by
    unfold recordOk
    cases decide (0 ≤ t ∧ t ≤ 1000000000000) <;> cases decide (key.size ≤ 100) <;> cases decide (value.size ≤ 100) <;> cases decide (heads.length ≤ 3) <;> cases (keyed || decide (key.size = 0)) <;> cases (!gone || decide (value.size = 0)) <;> cases heads.all headOk <;> rfl
  rw [e]
  by_cases ht : 0 ≤ t ∧ t ≤ 1000000000000
  · simp only [decide_eq_true ht, if_true, Bool.true_and]
    cases keyed <;> cases gone
    · simp only [Bool.false_eq_true, if_false, Bool.false_or, Bool.not_false, Bool.true_or, Bool.true_and]
      by_cases hk : key.size = 0
      · simpa only [if_pos ((toList_nil _).2 hk), decide_eq_true hk, Bool.true_and] using hin
      · simpa only [if_neg (fun h => hk ((toList_nil _).1 h)), decide_eq_false hk, Bool.false_and] using hj
    · simp only [Bool.false_eq_true, if_false, if_true, Bool.false_or, Bool.not_true]
      by_cases hk : key.size = 0
      · by_cases hv : value.size = 0
        · simpa only [if_pos ((toList_nil _).2 hk), if_pos ((toList_nil _).2 hv), decide_eq_true hk, decide_eq_true hv, Bool.true_and] using hin
        · simpa only [if_pos ((toList_nil _).2 hk), if_neg (fun h => hv ((toList_nil _).1 h)), decide_eq_true hk, decide_eq_false hv, Bool.true_and, Bool.false_and] using hj
      · simpa only [if_neg (fun h => hk ((toList_nil _).1 h)), decide_eq_false hk, Bool.false_and] using hj
    · simp only [Bool.false_eq_true, if_false, if_true, Bool.true_or, Bool.not_false, Bool.true_and]
      exact hin
    · simp only [if_true, Bool.true_or, Bool.not_true, Bool.false_or, Bool.true_and]
      by_cases hv : value.size = 0
      · simpa only [if_pos ((toList_nil _).2 hv), decide_eq_true hv, Bool.true_and] using hin
      · simpa only [if_neg (fun h => hv ((toList_nil _).1 h)), decide_eq_false hv, Bool.false_and] using hj
  · simpa only [decide_eq_false ht, Bool.false_eq_true, if_false, Bool.false_and] using hj
end Go.Proofs.Ytggpjapbcagebaa.G

namespace Go.Proofs.Ytggpjapbcagebaa.G
open Go.RowKit Go.Proofs.Ytggpjapbcagebaa.F Go.Proofs.YtggpjapbcagebaaW.PrintWords Go.Proofs.YtggpjapbcagebaaW.PrintLast Go.Proofs.YtggpjapbcagebaaW.PrintMore
set_option linter.unusedVariables false
set_option linter.unusedSimpArgs false

theorem offsetOk_eq (n : Int) : impl_offsetOk.f n = some (decide (0 ≤ n ∧ n ≤ 1000000000)) := by
  unfold impl_offsetOk.f
  by_cases h : n ≥ 0
  · rw [if_pos h]; congr 1
    by_cases h2 : n ≤ 1000000000
    · rw [decide_eq_true h2, decide_eq_true ⟨h, h2⟩]
    · rw [decide_eq_false h2, decide_eq_false (fun x => h2 x.2)]
  · rw [if_neg h, decide_eq_false (fun x => h x.1)]

def recOk (r : S118) : Bool := recordOk r.f0 r.f1 r.f2 r.f3 r.f4 r.f5
/-- A list of records whose heads' lists are of sizes that the machine's numbers hold. -/
def RecsSm (rs : List S118) : Prop := rs.length ≤ 1048576 ∧ ∀ r ∈ rs, r.f5.length ≤ 1048576
theorem recs_all (xs : List S118) (i : Nat) (hi : i < xs.length) : (xs.drop i).all recOk = (recOk (xs.getD i z118) && (xs.drop (i + 1)).all recOk) := by
  rw [drop_cons xs i z118 hi, List.all_cons]

theorem implRecs_l (xs : List S118) (hn : RecsSm xs) (m : Nat) : ∀ i : Nat, i + m = xs.length → Ev (fun k => impl_recordsOk.l0 k xs (xs.length : Int) (i : Int)) ((xs.drop i).all recOk) := by
  have hl := hn.1
  induction m with
  | zero =>
    intro i hi
    refine Ev.step (f := fun _ => some true) (fun k => by rw [impl_recordsOk.l0, if_neg (by omega)]) ?_
    rw [List.drop_of_length_le (by omega)]; exact Ev.now _
  | succ m ih =>
    intro i hi
    have ew : wrap64 ((i : Int) + 1) = ((i + 1 : Nat) : Int) := by rw [wrapI (by omega) (by omega)]; omega
    have h := ih (i + 1) (by omega)
    have hr : rd_T118 xs (i : Int) = xs.getD i z118 := rfl
    have hx := hn.2 _ (getD_mem xs i z118 (by omega))
    rw [recs_all xs i (by omega)]
    generalize xs.getD i z118 = x at hr hx
    refine Ev.step (fun k => by rw [impl_recordsOk.l0, if_pos (by omega), if_pos (by omega), if_pos (by omega), hr]) (Ev.bind (implRecordOk_ev _ _ _ _ _ _ hx) ?_)
    show Ev _ (recordOk x.f0 x.f1 x.f2 x.f3 x.f4 x.f5 && _)
    cases recordOk x.f0 x.f1 x.f2 x.f3 x.f4 x.f5
    · simp only [Bool.false_eq_true, if_false, Bool.false_and]; exact Ev.now _
    · simp only [if_true, Bool.true_and, ew]; exact h
theorem implRecordsOk_ev (xs : List S118) (hn : RecsSm xs) : Ev (fun k => impl_recordsOk.f k xs) (xs.all recOk) := by
  have h := implRecs_l xs hn xs.length 0 (by omega)
  rw [List.drop_zero] at h
  exact Ev.congr (fun k => by unfold impl_recordsOk.f; rfl) h

def txt1 : List UInt8 := [99, 111, 109, 109, 105, 116]
def txt2 : List UInt8 := [97, 98, 111, 114, 116]
def markRec (r : S118) : Bool := r.f1 && (decide (r.f2.toList = txt1) || decide (r.f2.toList = txt2)) && !r.f3 && decide (r.f4.toList = []) && decide (r.f5.length = 0)
theorem markRec_eq (r : S118) : (if r.f1 = true then (if (r.f2).toList = ([99, 111, 109, 109, 105, 116] : List UInt8) then (if (r.f3 = true) then (some false) else (if (r.f4).toList = ([] : List UInt8) then (some (((r.f5).length : Int) == 0)) else (some false))) else (if (r.f2).toList = ([97, 98, 111, 114, 116] : List UInt8) then (if (r.f3 = true) then (some false) else (if (r.f4).toList = ([] : List UInt8) then (some (((r.f5).length : Int) == 0)) else (some false))) else (some false))) else (some false)) = some (markRec r) := by
  unfold markRec txt1 txt2
  have e : (((r.f5).length : Int) == 0) = decide (r.f5.length = 0) := by
    by_cases h : r.f5.length = 0
    · rw [decide_eq_true h, h]; rfl
    · rw [decide_eq_false h]; exact beq_false_of_ne (by omega)
  rw [e]
  generalize decide (r.f5.length = 0) = q
  by_cases h4 : r.f4.toList = [] <;> by_cases h2 : r.f2.toList = [99, 111, 109, 109, 105, 116] <;> by_cases h3 : r.f2.toList = [97, 98, 111, 114, 116] <;> cases r.f1 <;> cases r.f3 <;> simp [h4, h2, h3]

def batchOk (b e p t s f : Int) (rs : List S118) : Bool :=
  decide (0 ≤ b ∧ b ≤ 1000000000) && decide (0 ≤ e ∧ e ≤ 1000000) && decide (-1 ≤ p ∧ p ≤ 1000000000) && decide (0 ≤ t ∧ t ≤ 1000) && decide (0 ≤ s ∧ s ≤ 1000000000) && decide (0 ≤ f ∧ f ≤ 7) &&
  (decide (1 ≤ (rs.length : Int) ∧ (rs.length : Int) ≤ 40) && (rs.all recOk && (decide (b + rs.length - 1 ≤ 1000000000) && decide (s + rs.length - 1 ≤ 1000000000) && (decide (p ≠ -1) || decide (t = 0 ∧ s = 0 ∧ f / 2 % 2 = 0)) &&
  (decide (f < 4) || (decide (f / 2 % 2 = 1) && decide (rs.length = 1) && markRec (rs.getD 0 z118))))))

theorem specRecs_l (b e p t s f : Int) (xs : List S118) (hn : RecsSm xs) (h1 : 1 ≤ xs.length) (hf2 : f ≥ 4 → f / 2 % 2 = 1) (m : Nat) : ∀ i : Nat, i + m = xs.length → Ev (fun k => spec_BatchOk.l0 k (i : Int) b e p t s f xs) ((xs.drop i).all recOk && (decide (f < 4) || (decide (f / 2 % 2 = 1) && decide (xs.length = 1) && markRec (xs.getD 0 z118)))) := by
  have hl := hn.1
  induction m with
  | zero =>
    intro i hi
    rw [List.drop_of_length_le (by omega), List.all_nil, Bool.true_and]
    refine Ev.step (f := fun _ => some (decide (f < 4) || (decide (f / 2 % 2 = 1) && decide (xs.length = 1) && markRec (xs.getD 0 z118)))) (fun k => ?_) (Ev.now _)
    rw [spec_BatchOk.l0, if_neg (by omega)]
    have hr : rd_T118 xs 0 = xs.getD 0 z118 := rfl
    by_cases hf : f ≥ 4
    · have := hf2 hf
      rw [if_pos hf, if_pos (by omega), hr, decide_eq_false (show ¬ f < 4 by omega), decide_eq_true this, Bool.false_or, Bool.true_and]
      by_cases hx : xs.length = 1
      · rw [if_pos (by omega), decide_eq_true hx, Bool.true_and]; exact markRec_eq _
      · rw [if_neg (by omega), decide_eq_false hx, Bool.false_and]
    · rw [if_neg hf, decide_eq_true (show f < 4 by omega), Bool.true_or]
  | succ m ih =>
    intro i hi
    have ew : wrap64 ((i : Int) + 1) = ((i + 1 : Nat) : Int) := by rw [wrapI (by omega) (by omega)]; omega
    have h := ih (i + 1) (by omega)
    have hr : rd_T118 xs (i : Int) = xs.getD i z118 := rfl
    have hx := hn.2 _ (getD_mem xs i z118 (by omega))
    rw [recs_all xs i (by omega)]
    generalize xs.getD i z118 = x at hr hx
    refine Ev.step (fun k => by rw [spec_BatchOk.l0, if_pos (by omega), if_pos (by omega), hr]) (Ev.bind (specRecordOk_ev _ _ _ _ _ _ hx) ?_)
    show Ev _ (recordOk x.f0 x.f1 x.f2 x.f3 x.f4 x.f5 && _ && _)
    cases recordOk x.f0 x.f1 x.f2 x.f3 x.f4 x.f5
    · simp only [Bool.false_eq_true, if_false, Bool.false_and]; exact Ev.now _
    · simp only [if_true, Bool.true_and, ew]; exact h
theorem specBatchOk_ev (b e p t s f : Int) (xs : List S118) (hn : RecsSm xs) : Ev (fun k => spec_BatchOk.f k b e p t s f xs) (batchOk b e p t s f xs) := by
  have hl := hn.1
  have hj : Ev (fun k => spec_BatchOk.j0 k true b e p t s f xs) false := Ev.step (f := fun _ => some false) (fun k => by rw [spec_BatchOk.j0, if_pos rfl]) (Ev.now _)
  have hj1 : Ev (fun k => spec_BatchOk.j1 k true b e p t s f xs) false := Ev.step (f := fun _ => some false) (fun k => by rw [spec_BatchOk.j1, if_pos rfl]) (Ev.now _)
  have hj2 : Ev (fun k => spec_BatchOk.j2 k true b e p t s f xs) false := Ev.step (f := fun _ => some false) (fun k => by rw [spec_BatchOk.j2, if_pos rfl]) (Ev.now _)
  unfold spec_BatchOk.f batchOk
  simp only [l1In_eq, Option.bind_some]
  by_cases h1 : 0 ≤ b ∧ b ≤ 1000000000
  case neg => simpa only [decide_eq_false h1, Bool.false_eq_true, if_false, Bool.false_and] using hj
  by_cases h2 : 0 ≤ e ∧ e ≤ 1000000
  case neg => simpa only [decide_eq_true h1, decide_eq_false h2, if_true, Bool.false_eq_true, if_false, Bool.true_and, Bool.false_and] using hj
  by_cases h3 : -1 ≤ p ∧ p ≤ 1000000000
  case neg => simpa only [decide_eq_true h1, decide_eq_true h2, decide_eq_false h3, if_true, Bool.false_eq_true, if_false, Bool.true_and, Bool.false_and] using hj
  by_cases h4 : 0 ≤ t ∧ t ≤ 1000
  case neg => simpa only [decide_eq_true h1, decide_eq_true h2, decide_eq_true h3, decide_eq_false h4, if_true, Bool.false_eq_true, if_false, Bool.true_and, Bool.false_and] using hj
  by_cases h5 : 0 ≤ s ∧ s ≤ 1000000000
  case neg => simpa only [decide_eq_true h1, decide_eq_true h2, decide_eq_true h3, decide_eq_true h4, decide_eq_false h5, if_true, Bool.false_eq_true, if_false, Bool.true_and, Bool.false_and] using hj
  by_cases h6 : 0 ≤ f ∧ f ≤ 7
  case neg => simpa only [decide_eq_true h1, decide_eq_true h2, decide_eq_true h3, decide_eq_true h4, decide_eq_true h5, decide_eq_false h6, if_true, Bool.not_false, Bool.true_and, Bool.false_and] using hj
  simp only [decide_eq_true h1, decide_eq_true h2, decide_eq_true h3, decide_eq_true h4, decide_eq_true h5, decide_eq_true h6, if_true, Bool.not_true, Bool.true_and]
  have ef : Int.tmod (wrap64 (Int.tdiv f 2)) 2 = f / 2 % 2 := by rw [tdiv_pos (by omega), wrapI (by omega) (by omega), tmod_pos (by omega)]
  -- what stands behind the second cut
  have hB : (f ≥ 4 → f / 2 % 2 = 1) → Ev (fun k => spec_BatchOk.j1 k false b e p t s f xs) (decide (1 ≤ (xs.length : Int) ∧ (xs.length : Int) ≤ 40) && (xs.all recOk && (decide (b + xs.length - 1 ≤ 1000000000) && decide (s + xs.length - 1 ≤ 1000000000) && (decide (f < 4) || (decide (f / 2 % 2 = 1) && decide (xs.length = 1) && markRec (xs.getD 0 z118)))))) := by
    intro hf2
    refine Ev.step (fun k => by rw [spec_BatchOk.j1, if_neg (by decide), l1In_eq, Option.bind_some]) ?_
    by_cases g1 : 1 ≤ (xs.length : Int) ∧ (xs.length : Int) ≤ 40
    case neg => simpa only [decide_eq_false g1, Bool.false_eq_true, if_false, Bool.false_and] using hj2
    have eb : wrap64 (wrap64 (b + (xs.length : Int)) - 1) = b + xs.length - 1 := by rw [wrapI (x := b + (xs.length : Int)) (by omega) (by omega), wrapI (by omega) (by omega)]
    have es : wrap64 (wrap64 (s + (xs.length : Int)) - 1) = s + xs.length - 1 := by rw [wrapI (x := s + (xs.length : Int)) (by omega) (by omega), wrapI (by omega) (by omega)]
    simp only [decide_eq_true g1, if_true, Bool.true_and, eb, es]
    by_cases g2 : b + (xs.length : Int) - 1 ≤ 1000000000
    case neg => simpa only [if_pos (show b + (xs.length : Int) - 1 > 1000000000 by omega), decide_eq_false g2, Bool.false_and, Bool.and_false] using hj2
    simp only [if_neg (show ¬ b + (xs.length : Int) - 1 > 1000000000 by omega), decide_eq_true g2, Bool.true_and]
    by_cases g3 : s + (xs.length : Int) - 1 ≤ 1000000000
    case neg => simpa only [decide_eq_true (show s + (xs.length : Int) - 1 > 1000000000 by omega), decide_eq_false g3, Bool.false_and, Bool.and_false] using hj2
    simp only [decide_eq_false (show ¬ s + (xs.length : Int) - 1 > 1000000000 by omega), decide_eq_true g3, Bool.true_and]
    have h := specRecs_l b e p t s f xs hn (by omega) hf2 xs.length 0 (by omega)
    rw [List.drop_zero] at h
    exact Ev.step (fun k => by rw [spec_BatchOk.j2, if_neg (by decide)]; rfl) h
  have hC : Ev (fun k => if f ≥ 4 then spec_BatchOk.j1 k (f / 2 % 2 == 0) b e p t s f xs else spec_BatchOk.j1 k false b e p t s f xs) (decide (1 ≤ (xs.length : Int) ∧ (xs.length : Int) ≤ 40) && (xs.all recOk && (decide (b + xs.length - 1 ≤ 1000000000) && decide (s + xs.length - 1 ≤ 1000000000) && (decide (f < 4) || (decide (f / 2 % 2 = 1) && decide (xs.length = 1) && markRec (xs.getD 0 z118)))))) := by
    by_cases g : f ≥ 4
    · simp only [if_pos g]
      by_cases g2 : f / 2 % 2 = 0
      · simp only [g2, beq_self_eq_true, decide_eq_false (show ¬ f < 4 by omega), decide_eq_false (show ¬ ((0 : Int) = 1) by decide), Bool.false_and, Bool.or_false, Bool.and_false]
        exact hj1
      · simp only [beq_false_of_ne g2]
        exact hB (fun _ => by omega)
    · simp only [if_neg g]
      exact hB (fun x => absurd x g)
  refine Ev.step (fun k => by rw [spec_BatchOk.j0, if_neg (by decide), ef]) ?_
  by_cases g : p < 0
  · simp only [if_pos g, decide_eq_false (show ¬ p ≠ -1 by omega), Bool.false_or]
    by_cases g1 : t = 0
    case neg => simpa only [if_neg g1, decide_eq_false (show ¬ (t = 0 ∧ s = 0 ∧ f / 2 % 2 = 0) from fun x => g1 x.1), Bool.false_and, Bool.and_false] using hj1
    by_cases g2 : s = 0
    case neg => simpa only [if_pos g1, if_neg g2, decide_eq_false (show ¬ (t = 0 ∧ s = 0 ∧ f / 2 % 2 = 0) from fun x => g2 x.2.1), Bool.false_and, Bool.and_false] using hj1
    by_cases g3 : f / 2 % 2 = 1
    · simpa only [if_pos g1, if_pos g2, if_pos g3, decide_eq_false (show ¬ (t = 0 ∧ s = 0 ∧ f / 2 % 2 = 0) from fun x => by omega), Bool.false_and, Bool.and_false] using hj1
    · simp only [if_pos g1, if_pos g2, if_neg g3, decide_eq_true (show t = 0 ∧ s = 0 ∧ f / 2 % 2 = 0 from ⟨g1, g2, by omega⟩), Bool.and_true]
      exact hC
  · simp only [if_neg g, decide_eq_true (show p ≠ -1 by omega), Bool.true_or, Bool.and_true]
    exact hC

set_option maxRecDepth 10000 in
theorem flag2 (f : Int) (h0 : 0 ≤ f) (h : f ≤ 7) : Go.bits .and .i64 f 2 = f / 2 % 2 * 2 := by
  obtain ⟨n, rfl⟩ := Int.eq_ofNat_of_zero_le h0
  have hn : n < 8 := by omega
  have : ∀ m : Nat, m < 8 → Go.bits .and .i64 (m : Int) 2 = (m : Int) / 2 % 2 * 2 := by decide
  exact this n hn
set_option maxRecDepth 10000 in
theorem flag4 (f : Int) (h0 : 0 ≤ f) (h : f ≤ 7) : Go.bits .and .i64 f 4 = f / 4 * 4 := by
  obtain ⟨n, rfl⟩ := Int.eq_ofNat_of_zero_le h0
  have hn : n < 8 := by omega
  have : ∀ m : Nat, m < 8 → Go.bits .and .i64 (m : Int) 4 = (m : Int) / 4 * 4 := by decide
  exact this n hn
theorem implBatchOk_ev (b e p t s f : Int) (xs : List S118) (hn : RecsSm xs) : Ev (fun k => impl_BatchOk.f k b e p t s f xs) (batchOk b e p t s f xs) := by
  have hl := hn.1
  have hj : Ev (fun k => impl_BatchOk.j0 k (xs.length : Int) true b e p t s f xs) false := Ev.step (f := fun _ => some false) (fun k => by rw [impl_BatchOk.j0, if_pos rfl]) (Ev.now _)
  have hj1 : Ev (fun k => impl_BatchOk.j1 k (xs.length : Int) true b e p t s f xs) false := Ev.step (f := fun _ => some false) (fun k => by rw [impl_BatchOk.j1, if_pos rfl]) (Ev.now _)
  unfold impl_BatchOk.f batchOk
  simp only [offsetOk_eq, within_eq, Option.bind_some]
  by_cases h1 : 0 ≤ b ∧ b ≤ 1000000000
  case neg => simpa only [decide_eq_false h1, Bool.false_eq_true, if_false, Bool.false_and] using hj
  by_cases h2 : 0 ≤ e ∧ e ≤ 1000000
  case neg => simpa only [decide_eq_true h1, decide_eq_false h2, if_true, Bool.false_eq_true, if_false, Bool.true_and, Bool.false_and] using hj
  by_cases h3 : -1 ≤ p ∧ p ≤ 1000000000
  case neg => simpa only [decide_eq_true h1, decide_eq_true h2, decide_eq_false h3, if_true, Bool.false_eq_true, if_false, Bool.true_and, Bool.false_and] using hj
  by_cases h4 : 0 ≤ t ∧ t ≤ 1000
  case neg => simpa only [decide_eq_true h1, decide_eq_true h2, decide_eq_true h3, decide_eq_false h4, if_true, Bool.false_eq_true, if_false, Bool.true_and, Bool.false_and] using hj
  by_cases h5 : 0 ≤ s ∧ s ≤ 1000000000
  case neg => simpa only [decide_eq_true h1, decide_eq_true h2, decide_eq_true h3, decide_eq_true h4, decide_eq_false h5, if_true, Bool.false_eq_true, if_false, Bool.true_and, Bool.false_and] using hj
  by_cases h6 : 0 ≤ f ∧ f ≤ 7
  case neg => simpa only [decide_eq_true h1, decide_eq_true h2, decide_eq_true h3, decide_eq_true h4, decide_eq_true h5, decide_eq_false h6, if_true, Bool.false_eq_true, if_false, Bool.true_and, Bool.false_and] using hj
  by_cases h7 : 1 ≤ (xs.length : Int) ∧ (xs.length : Int) ≤ 40
  case neg => simpa only [decide_eq_true h1, decide_eq_true h2, decide_eq_true h3, decide_eq_true h4, decide_eq_true h5, decide_eq_true h6, decide_eq_false h7, if_true, Bool.false_eq_true, if_false, Bool.true_and, Bool.false_and] using hj
  simp only [decide_eq_true h1, decide_eq_true h2, decide_eq_true h3, decide_eq_true h4, decide_eq_true h5, decide_eq_true h6, decide_eq_true h7, if_true, Bool.true_and]
  refine Ev.bind (implRecordsOk_ev xs hn) ?_
  cases hra : xs.all recOk
  case false => simpa only [Bool.not_false, Bool.false_and] using hj
  simp only [Bool.not_true, Bool.true_and]
  have eb : wrap64 (wrap64 (b + (xs.length : Int)) - 1) = b + xs.length - 1 := by rw [wrapI (x := b + (xs.length : Int)) (by omega) (by omega), wrapI (by omega) (by omega)]
  have es : wrap64 (wrap64 (s + (xs.length : Int)) - 1) = s + xs.length - 1 := by rw [wrapI (x := s + (xs.length : Int)) (by omega) (by omega), wrapI (by omega) (by omega)]
  refine Ev.step (fun k => by rw [impl_BatchOk.j0, if_neg (by decide), eb, es]) ?_
  simp only [offsetOk_eq, Option.bind_some]
  by_cases g2 : b + (xs.length : Int) - 1 ≤ 1000000000
  case neg => simpa only [decide_eq_false (show ¬ (0 ≤ b + (xs.length : Int) - 1 ∧ b + (xs.length : Int) - 1 ≤ 1000000000) from fun x => g2 x.2), decide_eq_false g2, Bool.false_eq_true, if_false, Bool.false_and] using hj1
  by_cases g3 : s + (xs.length : Int) - 1 ≤ 1000000000
  case neg => simpa only [decide_eq_true (show 0 ≤ b + (xs.length : Int) - 1 ∧ b + (xs.length : Int) - 1 ≤ 1000000000 from ⟨by omega, g2⟩), decide_eq_false (show ¬ (0 ≤ s + (xs.length : Int) - 1 ∧ s + (xs.length : Int) - 1 ≤ 1000000000) from fun x => g3 x.2), decide_eq_true g2, decide_eq_false g3, if_true, Bool.false_eq_true, if_false, Bool.false_and, Bool.and_false] using hj1
  simp only [decide_eq_true (show 0 ≤ b + (xs.length : Int) - 1 ∧ b + (xs.length : Int) - 1 ≤ 1000000000 from ⟨by omega, g2⟩), decide_eq_true (show 0 ≤ s + (xs.length : Int) - 1 ∧ s + (xs.length : Int) - 1 ≤ 1000000000 from ⟨by omega, g3⟩), decide_eq_true g2, decide_eq_true g3, if_true, Bool.true_and, flag2 f h6.1 h6.2]
  have hE : Ev (fun k => impl_BatchOk.j1 k (xs.length : Int) false b e p t s f xs) (decide (f < 4) || (decide (f / 2 % 2 = 1) && decide (xs.length = 1) && markRec (xs.getD 0 z118))) := by
    refine Ev.step (f := fun _ => some (decide (f < 4) || (decide (f / 2 % 2 = 1) && decide (xs.length = 1) && markRec (xs.getD 0 z118)))) (fun k => ?_) (Ev.now _)
    have hr : rd_T118 xs 0 = xs.getD 0 z118 := rfl
    rw [impl_BatchOk.j1, if_neg (by decide), flag4 f h6.1 h6.2, flag2 f h6.1 h6.2]
    by_cases g4 : f < 4
    · rw [if_pos (by omega), decide_eq_true g4, Bool.true_or]
    · rw [if_neg (by omega), if_pos (by omega), decide_eq_false g4, Bool.false_or]
      by_cases g5 : f / 2 % 2 = 1
      · rw [if_neg (by omega), decide_eq_true g5, Bool.true_and, hr]
        by_cases g6 : xs.length = 1
        · rw [if_pos (by omega), decide_eq_true g6, Bool.true_and]; exact markRec_eq _
        · rw [if_neg (by omega), decide_eq_false g6, Bool.false_and]
      · rw [if_pos (by omega), decide_eq_false g5, Bool.false_and, Bool.false_and]
  by_cases g : p = -1
  · simp only [if_pos g, decide_eq_false (show ¬ p ≠ -1 from fun x => x g), Bool.false_or]
    by_cases k1 : t = 0
    case neg => simpa only [if_neg k1, decide_eq_false (show ¬ (t = 0 ∧ s = 0 ∧ f / 2 % 2 = 0) from fun x => k1 x.1), Bool.false_and] using hj1
    by_cases k2 : s = 0
    case neg => simpa only [if_pos k1, if_neg k2, decide_eq_false (show ¬ (t = 0 ∧ s = 0 ∧ f / 2 % 2 = 0) from fun x => k2 x.2.1), Bool.false_and] using hj1
    simp only [if_pos k1, if_pos k2]
    by_cases k3 : f / 2 % 2 = 0
    · have e1 : (f / 2 % 2 * 2 != 0) = false := by rw [k3]; rfl
      simp only [e1, decide_eq_true (show t = 0 ∧ s = 0 ∧ f / 2 % 2 = 0 from ⟨k1, k2, k3⟩), Bool.true_and]
      exact hE
    · have : (f / 2 % 2 * 2 != 0) = true := bne_iff_ne.2 (by omega)
      simpa only [this, decide_eq_false (show ¬ (t = 0 ∧ s = 0 ∧ f / 2 % 2 = 0) from fun x => k3 x.2.2), Bool.false_and] using hj1
  · simp only [if_neg g, decide_eq_true (show p ≠ -1 from g), Bool.true_or, Bool.true_and]
    exact hE
end Go.Proofs.Ytggpjapbcagebaa.G

namespace Go.Proofs.Ytggpjapbcagebaa.G
open Go.Proofs.Ytggpjapbcagebaa.F
theorem recsSm {xs : List S118} (h : xs.length ≤ 1048576 ∧ ∀ y ∈ xs, Sm118 y) : RecsSm xs := ⟨h.1, fun r hr => (h.2 r hr).2.2.1⟩
end Go.Proofs.Ytggpjapbcagebaa.G

namespace Go.Proofs.Ytggpjapbcagebaa.G
theorem strLim {s : ByteArray} (h : Open.wfStr s) : s.size ≤ 9223372036854775807 := by simp only [Open.wfStr, maxLen] at h; omega
theorem listLim {α : Type} {W : α → Prop} {xs : List α} (h : Open.wfList W xs) : xs.length ≤ 9223372036854775807 := by have := h.1; simp only [maxLen] at this; omega
theorem strsLim {xs : List ByteArray} (h : Open.wfList Open.wfStr xs) : xs.length ≤ 9223372036854775807 ∧ ∀ y ∈ xs, y.size ≤ 9223372036854775807 := ⟨listLim h, fun y hy => strLim (h.2 y hy)⟩
end Go.Proofs.Ytggpjapbcagebaa.G

namespace Go.Proofs.Ytggpjapbcagebaa.G
open Go.RowKit Go.Proofs.Ytggpjapbcagebaa Go.Proofs.Ytggpjapbcagebaa.F Go.Proofs.YtggpjapbcagebaaW.PrintWords
set_option linter.unusedVariables false

theorem lim_Head {x : S428} (h : Kinds.Wf428 x) : Lim428 x := ⟨(strLim h.1), (strLim h.2)⟩
theorem limS_Head {xs : List S428} (h : Open.wfList Kinds.Wf428 xs) : xs.length ≤ 9223372036854775807 ∧ ∀ y ∈ xs, Lim428 y := ⟨listLim h, fun y hy => lim_Head (h.2 y hy)⟩
theorem sm_Head {x : S428} (h : Sm428 x) : Sm325 (convHead x) := ⟨h.1, h.2⟩
theorem smS_Head {xs : List S428} (h : xs.length ≤ 1048576 ∧ ∀ y ∈ xs, Sm428 y) : (xs.map convHead).length ≤ 1048576 ∧ ∀ y ∈ xs.map convHead, Sm325 y := ⟨by simpa using h.1, fun y hy => by obtain ⟨z, hz, rfl⟩ := List.mem_map.1 hy; exact sm_Head (h.2 z hz)⟩

end Go.Proofs.Ytggpjapbcagebaa.G

namespace Go.Proofs.Ytggpjapbcagebaa.G
open Go.RowKit Go.Proofs.Ytggpjapbcagebaa Go.Proofs.Ytggpjapbcagebaa.F Go.Proofs.YtggpjapbcagebaaW.PrintWords
set_option linter.unusedVariables false

theorem lim_Record {x : S324} (h : Kinds.Wf324 x) : Lim324 x := ⟨(strLim h.2.2.1), (strLim h.2.2.2.2.1), (limS_Head h.2.2.2.2.2)⟩
theorem limS_Record {xs : List S324} (h : Open.wfList Kinds.Wf324 xs) : xs.length ≤ 9223372036854775807 ∧ ∀ y ∈ xs, Lim324 y := ⟨listLim h, fun y hy => lim_Record (h.2 y hy)⟩
theorem sm_Record {x : S324} (h : Sm324 x) : Sm118 (convRecord x) := ⟨h.1, h.2.1, (smS_Head h.2.2)⟩
theorem smS_Record {xs : List S324} (h : xs.length ≤ 1048576 ∧ ∀ y ∈ xs, Sm324 y) : (xs.map convRecord).length ≤ 1048576 ∧ ∀ y ∈ xs.map convRecord, Sm118 y := ⟨by simpa using h.1, fun y hy => by obtain ⟨z, hz, rfl⟩ := List.mem_map.1 hy; exact sm_Record (h.2 z hz)⟩

end Go.Proofs.Ytggpjapbcagebaa.G

namespace Go.Proofs.Ytggpjapbcagebaa.G
open Go.RowKit Go.Proofs.Ytggpjapbcagebaa Go.Proofs.Ytggpjapbcagebaa.F Go.Proofs.YtggpjapbcagebaaW.PrintWords
set_option linter.unusedVariables false

theorem lim_Batch {x : S30} (h : Kinds.Wf30 x) : Lim30 x := (limS_Record h.2.2.2.2.2.2)
theorem limS_Batch {xs : List S30} (h : Open.wfList Kinds.Wf30 xs) : xs.length ≤ 9223372036854775807 ∧ ∀ y ∈ xs, Lim30 y := ⟨listLim h, fun y hy => lim_Batch (h.2 y hy)⟩
theorem sm_Batch {x : S30} (h : Sm30 x) : Sm35 (convBatch x) := (smS_Record h)
theorem smS_Batch {xs : List S30} (h : xs.length ≤ 1048576 ∧ ∀ y ∈ xs, Sm30 y) : (xs.map convBatch).length ≤ 1048576 ∧ ∀ y ∈ xs.map convBatch, Sm35 y := ⟨by simpa using h.1, fun y hy => by obtain ⟨z, hz, rfl⟩ := List.mem_map.1 hy; exact sm_Batch (h.2 z hz)⟩

end Go.Proofs.Ytggpjapbcagebaa.G

namespace Go.Proofs.Ytggpjapbcagebaa.Pure
open Go.RowKit Go.Proofs.Ytggpjapbcagebaa.F Go.Proofs.Ytggpjapbcagebaa.G Go.Proofs.Ytggpjapbcagebaa Go.Proofs.YtggpjapbcagebaaW.PrintWords Go.Proofs.YtggpjapbcagebaaW.PrintLast Go.Proofs.YtggpjapbcagebaaW.PrintMore
set_option linter.unusedVariables false

theorem FnExactBatchOk (a0_0 : Int) (a0_1 : Int) (a0_2 : Int) (a0_3 : Int) (a0_4 : Int) (a0_5 : Int) (a0_6 : List (S324)) (w0 : KindsFnExactBatchOk.wp30 (a0_0, a0_1, a0_2, a0_3, a0_4, a0_5, a0_6)) : Ev (fun k => laws_FnExactBatchOk.f k a0_0 a0_1 a0_2 a0_3 a0_4 a0_5 a0_6) true := by
  obtain ⟨_, _, _, _, _, _, wr⟩ := w0
  obtain ⟨r, q, l, s⟩ := szBatch_ev a0_0 a0_1 a0_2 a0_3 a0_4 a0_5 a0_6 1048576 (by omega) (by omega) (limS_Record wr)
  unfold laws_FnExactBatchOk.f
  refine Ev.bind q ?_
  by_cases c : r < 0
  · simp only [if_pos c]; exact Ev.now _
  simp only [if_neg c]
  have hs := s (by omega)
  have ht := toBatch_ev a0_0 a0_1 a0_2 a0_3 a0_4 a0_5 a0_6 hs
  have hm := smS_Record hs
  have hr := recsSm hm
  refine Ev.bind ht (Ev.bind (specBatchOk_ev _ _ _ _ _ _ _ hr) (Ev.bind ht (Ev.bind (implBatchOk_ev _ _ _ _ _ _ _ hr) ?_)))
  simp only [bne_self_eq_false, Bool.false_eq_true, if_false]
  refine Ev.bind ht (Ev.bind (eqBatch_ev _ _ _ _ _ _ _ hm) ?_)
  simp only [if_true]
  exact Ev.now _
end Go.Proofs.Ytggpjapbcagebaa.Pure

namespace Go.Proofs.Ytggpjapbcagebaa.fnExactBatchOk
open Go.ChangeShapes Go.WideShapes Go.ChangeAt Go.RowKit
open Go.ChangeMaps (open_string shut_string)
open Go.Proofs.YtggpjapbcagebaaW.PrintWords Go.Proofs.Ytggpjapbcagebaa.F
set_option linter.unusedVariables false
theorem own : ownKnob Try.prog.godebug = none := by kernel_rfl
theorem laidOut : laidOutB Try.prog = true := by kernel_rfl
set_option maxRecDepth 100000 in
theorem lifted (os : Os) (started : os.Started) (H : Type) (enc : TypeId × Value → H) :
    ReturnsInHanded {} Try.checked os 4 .any (Rows.fnExactBatchOkSpec.pre6 enc Try.prog Try.f4 Rows.fnExactBatchOkRow.domain false) (Rows.fnExactBatchOkSpec.post enc Try.prog Try.f4 false true false false) := by
  refine returnsInHanded_of_change_sized (C := Try.checked) own started (by kernel_rfl) Try.func4
    (ChangeSpec.witness6 (enc := enc) (C := Try.checked) false ⟨#[], #[.agg #[.int .i64 0, .int .i64 0, .int .i64 0, .int .i64 0, .int .i64 0, .int .i64 0, .slice none 0 0]], []⟩ 8 (by kernel_rfl) (by kernel_rfl) (by kernel_rfl) (by kernel_rfl)) ?_
  intro W base args ds gs before hval0 hW hcnd hsz0 _
  have hval : ∀ (j : Nat) t v, Try.f4.params[j]? = some t → args[j]? = some v → Value.okWide Try.prog W .any base t v := hval0
  have hW' := hW
  obtain ⟨p, q, hA0, hV, rfl, hfz, hnd⟩ := hW
  have hA : DataW.TrodAll enc Try.prog W 0 (fun _ => true) true Try.f4.params.toList args.toList ds p := hA0
  rw [Try.params4] at hA hval
  obtain ⟨v0, vs0, d0, ds0, p0, q0, hargs, rfl, rfl, h0, r0⟩ := trodAll_cons hA
  obtain ⟨rfl, rfl, rfl⟩ := trodAll_nil r0
  obtain rfl : args = #[v0] := by cases args; simp_all
  obtain ⟨rfl, rfl⟩ := trodVars_none hV
  have k0 := h0
  have lt0 : ∀ x ∈ p0, x.block < W.heap.size := by obtain ⟨m, hm⟩ := k0; exact DataW.trod_lt m _ _ _ hm
  obtain ⟨cs0, rfl, _⟩ := okWide_struct Try.underlying30 (hval 0 30 v0 rfl rfl)
  obtain ⟨⟨a0_0, a0_1, a0_2, a0_3, a0_4, a0_5, a0_6⟩, hK0, w0⟩ : ∃ y, KindsFnExactBatchOk.kp30.K W y cs0.toList ∧ KindsFnExactBatchOk.wp30 y := by
    obtain ⟨fuel, hf⟩ := h0
    exact KindsFnExactBatchOk.rdp30.out hf
  obtain ⟨Aa0_6, ca0_6, e0, la0_6, ga0_6⟩ := KindsFnExactBatchOk.kp30_open hK0
  obtain rfl : cs0 = #[.int .i64 a0_0, .int .i64 a0_1, .int .i64 a0_2, .int .i64 a0_3, .int .i64 a0_4, .int .i64 a0_5, .slice Aa0_6 a0_6.length ca0_6] := Array.toList_inj.1 e0
  clear hA0 hval0 hsz0
  obtain ⟨kk, hk⟩ := Ev.rounds (Pure.FnExactBatchOk a0_0 a0_1 a0_2 a0_3 a0_4 a0_5 a0_6 w0)
  refine (F.laws_FnExactBatchOk.calls kk a0_0 a0_1 a0_2 a0_3 a0_4 a0_5 Aa0_6 ca0_6 a0_6 true W ga0_6 la0_6 hk).mono fun e W' ⟨he, bel⟩ => ?_
  subst he
  exact ⟨_, rfl, _, _, _, [], _, [], hW', trodAll_mk1 (shut_bool Try.underlying4 _), (trodAll_cons_mk (Below.trod laidOut (by kernel_rfl) (of_decide_eq_true (by kernel_rfl)) k0 bel lt0) trodAll_mk0), rfl, bel.frame _, fun h => by cases h⟩
theorem over : Rows.fnExactBatchOkRow.holds Try.pinned (OpenSpec.ofChange Rows.fnExactBatchOkSpec) :=
  OpenClaim.holds_of_wide 4 Try.f4 rfl rfl rfl rfl rfl rfl rfl ⟨rfl, rfl, rfl, rfl, rfl⟩ rfl rfl rfl rfl rfl (by kernel_rfl) Try.func4 (by kernel_rfl)
    (of_decide_eq_true (by kernel_rfl)) (by unfold Func.isWrapper; first | (rw [if_pos (by decide +kernel)]; kernel_rfl) | (rw [if_neg (by decide +kernel)]; exact ⟨rfl, rfl⟩))
    (fun os started H enc _ => lifted os started H enc)
theorem proved : Rows.FnExactBatchOkSaid := over
#print axioms proved
end Go.Proofs.Ytggpjapbcagebaa.fnExactBatchOk
namespace Go.Proofs.Ytggpjapbcagebaa
/-- The row, under a short name, for the claim. -/
theorem fnExactBatchOk_holds : Rows.FnExactBatchOkSaid := fnExactBatchOk.proved
end Go.Proofs.Ytggpjapbcagebaa
