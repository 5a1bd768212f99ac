/-
  FACTS of the program's types, by a program: sizes, kinds.
-/
import Derived.Test.YtnapccecmcdnjacGreatAmD
import Derived.Test.YtnapccecmcdnjacGreatRows
set_option linter.unusedVariables false
set_option linter.unusedSimpArgs false
namespace Go.Am
open Go.Proofs
@[simp] theorem cells0 : Tryz.prog.cellsOf 0 = 1 := by kernel_rfl
@[simp] theorem infoS0 : (Tryz.prog.info? 0).isSome = true := by kernel_rfl
@[simp] theorem agg0 : aggT Tryz.prog 0 = some false := by kernel_rfl
theorem info0 : Tryz.prog.info? 0 = some Tryz.t0 := by kernel_rfl
attribute [simp] Tryz.underlying0
@[simp] theorem cells1 : Tryz.prog.cellsOf 1 = 1 := by kernel_rfl
@[simp] theorem infoS1 : (Tryz.prog.info? 1).isSome = true := by kernel_rfl
@[simp] theorem agg1 : aggT Tryz.prog 1 = some false := by kernel_rfl
theorem info1 : Tryz.prog.info? 1 = some Tryz.t1 := by kernel_rfl
attribute [simp] Tryz.underlying1
@[simp] theorem cells2 : Tryz.prog.cellsOf 2 = 1 := by kernel_rfl
@[simp] theorem infoS2 : (Tryz.prog.info? 2).isSome = true := by kernel_rfl
@[simp] theorem agg2 : aggT Tryz.prog 2 = some false := by kernel_rfl
theorem info2 : Tryz.prog.info? 2 = some Tryz.t2 := by kernel_rfl
attribute [simp] Tryz.underlying2
@[simp] theorem cells3 : Tryz.prog.cellsOf 3 = 1 := by kernel_rfl
@[simp] theorem infoS3 : (Tryz.prog.info? 3).isSome = true := by kernel_rfl
@[simp] theorem agg3 : aggT Tryz.prog 3 = some false := by kernel_rfl
theorem info3 : Tryz.prog.info? 3 = some Tryz.t3 := by kernel_rfl
attribute [simp] Tryz.underlying3
@[simp] theorem cells4 : Tryz.prog.cellsOf 4 = 1 := by kernel_rfl
@[simp] theorem infoS4 : (Tryz.prog.info? 4).isSome = true := by kernel_rfl
@[simp] theorem agg4 : aggT Tryz.prog 4 = some false := by kernel_rfl
theorem info4 : Tryz.prog.info? 4 = some Tryz.t4 := by kernel_rfl
attribute [simp] Tryz.underlying4
@[simp] theorem cells5 : Tryz.prog.cellsOf 5 = 1 := by kernel_rfl
@[simp] theorem infoS5 : (Tryz.prog.info? 5).isSome = true := by kernel_rfl
@[simp] theorem agg5 : aggT Tryz.prog 5 = some false := by kernel_rfl
theorem info5 : Tryz.prog.info? 5 = some Tryz.t5 := by kernel_rfl
attribute [simp] Tryz.underlying5
@[simp] theorem cells6 : Tryz.prog.cellsOf 6 = 1 := by kernel_rfl
@[simp] theorem infoS6 : (Tryz.prog.info? 6).isSome = true := by kernel_rfl
@[simp] theorem agg6 : aggT Tryz.prog 6 = some false := by kernel_rfl
theorem info6 : Tryz.prog.info? 6 = some Tryz.t6 := by kernel_rfl
attribute [simp] Tryz.underlying6
@[simp] theorem cells7 : Tryz.prog.cellsOf 7 = 4 := by kernel_rfl
@[simp] theorem infoS7 : (Tryz.prog.info? 7).isSome = true := by kernel_rfl
@[simp] theorem agg7 : aggT Tryz.prog 7 = some true := by kernel_rfl
theorem info7 : Tryz.prog.info? 7 = some Tryz.t7 := by kernel_rfl
attribute [simp] Tryz.underlying7
@[simp] theorem cells8 : Tryz.prog.cellsOf 8 = 4 := by kernel_rfl
@[simp] theorem infoS8 : (Tryz.prog.info? 8).isSome = true := by kernel_rfl
@[simp] theorem agg8 : aggT Tryz.prog 8 = some true := by kernel_rfl
theorem info8 : Tryz.prog.info? 8 = some Tryz.t8 := by kernel_rfl
attribute [simp] Tryz.underlying8
@[simp] theorem cells9 : Tryz.prog.cellsOf 9 = 1 := by kernel_rfl
@[simp] theorem infoS9 : (Tryz.prog.info? 9).isSome = true := by kernel_rfl
@[simp] theorem agg9 : aggT Tryz.prog 9 = some false := by kernel_rfl
theorem info9 : Tryz.prog.info? 9 = some Tryz.t9 := by kernel_rfl
attribute [simp] Tryz.underlying9
@[simp] theorem cells10 : Tryz.prog.cellsOf 10 = 1 := by kernel_rfl
@[simp] theorem infoS10 : (Tryz.prog.info? 10).isSome = true := by kernel_rfl
@[simp] theorem agg10 : aggT Tryz.prog 10 = some false := by kernel_rfl
theorem info10 : Tryz.prog.info? 10 = some Tryz.t10 := by kernel_rfl
attribute [simp] Tryz.underlying10
@[simp] theorem cells11 : Tryz.prog.cellsOf 11 = 1 := by kernel_rfl
@[simp] theorem infoS11 : (Tryz.prog.info? 11).isSome = true := by kernel_rfl
@[simp] theorem agg11 : aggT Tryz.prog 11 = some false := by kernel_rfl
theorem info11 : Tryz.prog.info? 11 = some Tryz.t11 := by kernel_rfl
attribute [simp] Tryz.underlying11
@[simp] theorem cells12 : Tryz.prog.cellsOf 12 = 1 := by kernel_rfl
@[simp] theorem infoS12 : (Tryz.prog.info? 12).isSome = true := by kernel_rfl
@[simp] theorem agg12 : aggT Tryz.prog 12 = some false := by kernel_rfl
theorem info12 : Tryz.prog.info? 12 = some Tryz.t12 := by kernel_rfl
attribute [simp] Tryz.underlying12
@[simp] theorem cells13 : Tryz.prog.cellsOf 13 = 2 := by kernel_rfl
@[simp] theorem infoS13 : (Tryz.prog.info? 13).isSome = true := by kernel_rfl
@[simp] theorem agg13 : aggT Tryz.prog 13 = some true := by kernel_rfl
theorem info13 : Tryz.prog.info? 13 = some Tryz.t13 := by kernel_rfl
attribute [simp] Tryz.underlying13
@[simp] theorem cells14 : Tryz.prog.cellsOf 14 = 2 := by kernel_rfl
@[simp] theorem infoS14 : (Tryz.prog.info? 14).isSome = true := by kernel_rfl
@[simp] theorem agg14 : aggT Tryz.prog 14 = some true := by kernel_rfl
theorem info14 : Tryz.prog.info? 14 = some Tryz.t14 := by kernel_rfl
attribute [simp] Tryz.underlying14
@[simp] theorem cells15 : Tryz.prog.cellsOf 15 = 1 := by kernel_rfl
@[simp] theorem infoS15 : (Tryz.prog.info? 15).isSome = true := by kernel_rfl
@[simp] theorem agg15 : aggT Tryz.prog 15 = some false := by kernel_rfl
theorem info15 : Tryz.prog.info? 15 = some Tryz.t15 := by kernel_rfl
attribute [simp] Tryz.underlying15
@[simp] theorem cells16 : Tryz.prog.cellsOf 16 = 1 := by kernel_rfl
@[simp] theorem infoS16 : (Tryz.prog.info? 16).isSome = true := by kernel_rfl
@[simp] theorem agg16 : aggT Tryz.prog 16 = some false := by kernel_rfl
theorem info16 : Tryz.prog.info? 16 = some Tryz.t16 := by kernel_rfl
attribute [simp] Tryz.underlying16
@[simp] theorem cells17 : Tryz.prog.cellsOf 17 = 1 := by kernel_rfl
@[simp] theorem infoS17 : (Tryz.prog.info? 17).isSome = true := by kernel_rfl
@[simp] theorem agg17 : aggT Tryz.prog 17 = some false := by kernel_rfl
theorem info17 : Tryz.prog.info? 17 = some Tryz.t17 := by kernel_rfl
attribute [simp] Tryz.underlying17
@[simp] theorem cells18 : Tryz.prog.cellsOf 18 = 1 := by kernel_rfl
@[simp] theorem infoS18 : (Tryz.prog.info? 18).isSome = true := by kernel_rfl
@[simp] theorem agg18 : aggT Tryz.prog 18 = some true := by kernel_rfl
theorem info18 : Tryz.prog.info? 18 = some Tryz.t18 := by kernel_rfl
attribute [simp] Tryz.underlying18
@[simp] theorem cells19 : Tryz.prog.cellsOf 19 = 1 := by kernel_rfl
@[simp] theorem infoS19 : (Tryz.prog.info? 19).isSome = true := by kernel_rfl
@[simp] theorem agg19 : aggT Tryz.prog 19 = some true := by kernel_rfl
theorem info19 : Tryz.prog.info? 19 = some Tryz.t19 := by kernel_rfl
attribute [simp] Tryz.underlying19
@[simp] theorem cells20 : Tryz.prog.cellsOf 20 = 1 := by kernel_rfl
@[simp] theorem infoS20 : (Tryz.prog.info? 20).isSome = true := by kernel_rfl
@[simp] theorem agg20 : aggT Tryz.prog 20 = some false := by kernel_rfl
theorem info20 : Tryz.prog.info? 20 = some Tryz.t20 := by kernel_rfl
attribute [simp] Tryz.underlying20
@[simp] theorem cells21 : Tryz.prog.cellsOf 21 = 1 := by kernel_rfl
@[simp] theorem infoS21 : (Tryz.prog.info? 21).isSome = true := by kernel_rfl
@[simp] theorem agg21 : aggT Tryz.prog 21 = some false := by kernel_rfl
theorem info21 : Tryz.prog.info? 21 = some Tryz.t21 := by kernel_rfl
attribute [simp] Tryz.underlying21
@[simp] theorem cells22 : Tryz.prog.cellsOf 22 = 1 := by kernel_rfl
@[simp] theorem infoS22 : (Tryz.prog.info? 22).isSome = true := by kernel_rfl
@[simp] theorem agg22 : aggT Tryz.prog 22 = some false := by kernel_rfl
theorem info22 : Tryz.prog.info? 22 = some Tryz.t22 := by kernel_rfl
attribute [simp] Tryz.underlying22
@[simp] theorem cells23 : Tryz.prog.cellsOf 23 = 5 := by kernel_rfl
@[simp] theorem infoS23 : (Tryz.prog.info? 23).isSome = true := by kernel_rfl
@[simp] theorem agg23 : aggT Tryz.prog 23 = some true := by kernel_rfl
theorem info23 : Tryz.prog.info? 23 = some Tryz.t23 := by kernel_rfl
attribute [simp] Tryz.underlying23
@[simp] theorem cells24 : Tryz.prog.cellsOf 24 = 5 := by kernel_rfl
@[simp] theorem infoS24 : (Tryz.prog.info? 24).isSome = true := by kernel_rfl
@[simp] theorem agg24 : aggT Tryz.prog 24 = some true := by kernel_rfl
theorem info24 : Tryz.prog.info? 24 = some Tryz.t24 := by kernel_rfl
attribute [simp] Tryz.underlying24
@[simp] theorem cells25 : Tryz.prog.cellsOf 25 = 1 := by kernel_rfl
@[simp] theorem infoS25 : (Tryz.prog.info? 25).isSome = true := by kernel_rfl
@[simp] theorem agg25 : aggT Tryz.prog 25 = some false := by kernel_rfl
theorem info25 : Tryz.prog.info? 25 = some Tryz.t25 := by kernel_rfl
attribute [simp] Tryz.underlying25
@[simp] theorem cells26 : Tryz.prog.cellsOf 26 = 1 := by kernel_rfl
@[simp] theorem infoS26 : (Tryz.prog.info? 26).isSome = true := by kernel_rfl
@[simp] theorem agg26 : aggT Tryz.prog 26 = some false := by kernel_rfl
theorem info26 : Tryz.prog.info? 26 = some Tryz.t26 := by kernel_rfl
attribute [simp] Tryz.underlying26
@[simp] theorem cells27 : Tryz.prog.cellsOf 27 = 1 := by kernel_rfl
@[simp] theorem infoS27 : (Tryz.prog.info? 27).isSome = true := by kernel_rfl
@[simp] theorem agg27 : aggT Tryz.prog 27 = some false := by kernel_rfl
theorem info27 : Tryz.prog.info? 27 = some Tryz.t27 := by kernel_rfl
attribute [simp] Tryz.underlying27
@[simp] theorem cells28 : Tryz.prog.cellsOf 28 = 1 := by kernel_rfl
@[simp] theorem infoS28 : (Tryz.prog.info? 28).isSome = true := by kernel_rfl
@[simp] theorem agg28 : aggT Tryz.prog 28 = some false := by kernel_rfl
theorem info28 : Tryz.prog.info? 28 = some Tryz.t28 := by kernel_rfl
attribute [simp] Tryz.underlying28
@[simp] theorem cells29 : Tryz.prog.cellsOf 29 = 1 := by kernel_rfl
@[simp] theorem infoS29 : (Tryz.prog.info? 29).isSome = true := by kernel_rfl
@[simp] theorem agg29 : aggT Tryz.prog 29 = some false := by kernel_rfl
theorem info29 : Tryz.prog.info? 29 = some Tryz.t29 := by kernel_rfl
attribute [simp] Tryz.underlying29
@[simp] theorem cells30 : Tryz.prog.cellsOf 30 = 1 := by kernel_rfl
@[simp] theorem infoS30 : (Tryz.prog.info? 30).isSome = true := by kernel_rfl
@[simp] theorem agg30 : aggT Tryz.prog 30 = some false := by kernel_rfl
theorem info30 : Tryz.prog.info? 30 = some Tryz.t30 := by kernel_rfl
attribute [simp] Tryz.underlying30
@[simp] theorem cells31 : Tryz.prog.cellsOf 31 = 1 := by kernel_rfl
@[simp] theorem infoS31 : (Tryz.prog.info? 31).isSome = true := by kernel_rfl
@[simp] theorem agg31 : aggT Tryz.prog 31 = some false := by kernel_rfl
theorem info31 : Tryz.prog.info? 31 = some Tryz.t31 := by kernel_rfl
attribute [simp] Tryz.underlying31
@[simp] theorem cells32 : Tryz.prog.cellsOf 32 = 1 := by kernel_rfl
@[simp] theorem infoS32 : (Tryz.prog.info? 32).isSome = true := by kernel_rfl
@[simp] theorem agg32 : aggT Tryz.prog 32 = some false := by kernel_rfl
theorem info32 : Tryz.prog.info? 32 = some Tryz.t32 := by kernel_rfl
attribute [simp] Tryz.underlying32
@[simp] theorem cells33 : Tryz.prog.cellsOf 33 = 1 := by kernel_rfl
@[simp] theorem infoS33 : (Tryz.prog.info? 33).isSome = true := by kernel_rfl
@[simp] theorem agg33 : aggT Tryz.prog 33 = some false := by kernel_rfl
theorem info33 : Tryz.prog.info? 33 = some Tryz.t33 := by kernel_rfl
attribute [simp] Tryz.underlying33
@[simp] theorem cells34 : Tryz.prog.cellsOf 34 = 3 := by kernel_rfl
@[simp] theorem infoS34 : (Tryz.prog.info? 34).isSome = true := by kernel_rfl
@[simp] theorem agg34 : aggT Tryz.prog 34 = some true := by kernel_rfl
theorem info34 : Tryz.prog.info? 34 = some Tryz.t34 := by kernel_rfl
attribute [simp] Tryz.underlying34
@[simp] theorem cells35 : Tryz.prog.cellsOf 35 = 3 := by kernel_rfl
@[simp] theorem infoS35 : (Tryz.prog.info? 35).isSome = true := by kernel_rfl
@[simp] theorem agg35 : aggT Tryz.prog 35 = some true := by kernel_rfl
theorem info35 : Tryz.prog.info? 35 = some Tryz.t35 := by kernel_rfl
attribute [simp] Tryz.underlying35
@[simp] theorem cells36 : Tryz.prog.cellsOf 36 = 7 := by kernel_rfl
@[simp] theorem infoS36 : (Tryz.prog.info? 36).isSome = true := by kernel_rfl
@[simp] theorem agg36 : aggT Tryz.prog 36 = some true := by kernel_rfl
theorem info36 : Tryz.prog.info? 36 = some Tryz.t36 := by kernel_rfl
attribute [simp] Tryz.underlying36
@[simp] theorem cells37 : Tryz.prog.cellsOf 37 = 7 := by kernel_rfl
@[simp] theorem infoS37 : (Tryz.prog.info? 37).isSome = true := by kernel_rfl
@[simp] theorem agg37 : aggT Tryz.prog 37 = some true := by kernel_rfl
theorem info37 : Tryz.prog.info? 37 = some Tryz.t37 := by kernel_rfl
attribute [simp] Tryz.underlying37
@[simp] theorem cells38 : Tryz.prog.cellsOf 38 = 1 := by kernel_rfl
@[simp] theorem infoS38 : (Tryz.prog.info? 38).isSome = true := by kernel_rfl
@[simp] theorem agg38 : aggT Tryz.prog 38 = some false := by kernel_rfl
theorem info38 : Tryz.prog.info? 38 = some Tryz.t38 := by kernel_rfl
attribute [simp] Tryz.underlying38
@[simp] theorem cells39 : Tryz.prog.cellsOf 39 = 1 := by kernel_rfl
@[simp] theorem infoS39 : (Tryz.prog.info? 39).isSome = true := by kernel_rfl
@[simp] theorem agg39 : aggT Tryz.prog 39 = some false := by kernel_rfl
theorem info39 : Tryz.prog.info? 39 = some Tryz.t39 := by kernel_rfl
attribute [simp] Tryz.underlying39
@[simp] theorem cells40 : Tryz.prog.cellsOf 40 = 1 := by kernel_rfl
@[simp] theorem infoS40 : (Tryz.prog.info? 40).isSome = true := by kernel_rfl
@[simp] theorem agg40 : aggT Tryz.prog 40 = some false := by kernel_rfl
theorem info40 : Tryz.prog.info? 40 = some Tryz.t40 := by kernel_rfl
attribute [simp] Tryz.underlying40
@[simp] theorem cells41 : Tryz.prog.cellsOf 41 = 1 := by kernel_rfl
@[simp] theorem infoS41 : (Tryz.prog.info? 41).isSome = true := by kernel_rfl
@[simp] theorem agg41 : aggT Tryz.prog 41 = some false := by kernel_rfl
theorem info41 : Tryz.prog.info? 41 = some Tryz.t41 := by kernel_rfl
attribute [simp] Tryz.underlying41
@[simp] theorem cells42 : Tryz.prog.cellsOf 42 = 1 := by kernel_rfl
@[simp] theorem infoS42 : (Tryz.prog.info? 42).isSome = true := by kernel_rfl
@[simp] theorem agg42 : aggT Tryz.prog 42 = some false := by kernel_rfl
theorem info42 : Tryz.prog.info? 42 = some Tryz.t42 := by kernel_rfl
attribute [simp] Tryz.underlying42
@[simp] theorem cells43 : Tryz.prog.cellsOf 43 = 1 := by kernel_rfl
@[simp] theorem infoS43 : (Tryz.prog.info? 43).isSome = true := by kernel_rfl
@[simp] theorem agg43 : aggT Tryz.prog 43 = some false := by kernel_rfl
theorem info43 : Tryz.prog.info? 43 = some Tryz.t43 := by kernel_rfl
attribute [simp] Tryz.underlying43
@[simp] theorem cells44 : Tryz.prog.cellsOf 44 = 1 := by kernel_rfl
@[simp] theorem infoS44 : (Tryz.prog.info? 44).isSome = true := by kernel_rfl
@[simp] theorem agg44 : aggT Tryz.prog 44 = some false := by kernel_rfl
theorem info44 : Tryz.prog.info? 44 = some Tryz.t44 := by kernel_rfl
attribute [simp] Tryz.underlying44
@[simp] theorem cells45 : Tryz.prog.cellsOf 45 = 1 := by kernel_rfl
@[simp] theorem infoS45 : (Tryz.prog.info? 45).isSome = true := by kernel_rfl
@[simp] theorem agg45 : aggT Tryz.prog 45 = some false := by kernel_rfl
theorem info45 : Tryz.prog.info? 45 = some Tryz.t45 := by kernel_rfl
attribute [simp] Tryz.underlying45
@[simp] theorem cells46 : Tryz.prog.cellsOf 46 = 2 := by kernel_rfl
@[simp] theorem infoS46 : (Tryz.prog.info? 46).isSome = true := by kernel_rfl
@[simp] theorem agg46 : aggT Tryz.prog 46 = some true := by kernel_rfl
theorem info46 : Tryz.prog.info? 46 = some Tryz.t46 := by kernel_rfl
attribute [simp] Tryz.underlying46
@[simp] theorem cells47 : Tryz.prog.cellsOf 47 = 2 := by kernel_rfl
@[simp] theorem infoS47 : (Tryz.prog.info? 47).isSome = true := by kernel_rfl
@[simp] theorem agg47 : aggT Tryz.prog 47 = some true := by kernel_rfl
theorem info47 : Tryz.prog.info? 47 = some Tryz.t47 := by kernel_rfl
attribute [simp] Tryz.underlying47
@[simp] theorem cells48 : Tryz.prog.cellsOf 48 = 1 := by kernel_rfl
@[simp] theorem infoS48 : (Tryz.prog.info? 48).isSome = true := by kernel_rfl
@[simp] theorem agg48 : aggT Tryz.prog 48 = some false := by kernel_rfl
theorem info48 : Tryz.prog.info? 48 = some Tryz.t48 := by kernel_rfl
attribute [simp] Tryz.underlying48
@[simp] theorem cells49 : Tryz.prog.cellsOf 49 = 1 := by kernel_rfl
@[simp] theorem infoS49 : (Tryz.prog.info? 49).isSome = true := by kernel_rfl
@[simp] theorem agg49 : aggT Tryz.prog 49 = some false := by kernel_rfl
theorem info49 : Tryz.prog.info? 49 = some Tryz.t49 := by kernel_rfl
attribute [simp] Tryz.underlying49
@[simp] theorem cells50 : Tryz.prog.cellsOf 50 = 1 := by kernel_rfl
@[simp] theorem infoS50 : (Tryz.prog.info? 50).isSome = true := by kernel_rfl
@[simp] theorem agg50 : aggT Tryz.prog 50 = some false := by kernel_rfl
theorem info50 : Tryz.prog.info? 50 = some Tryz.t50 := by kernel_rfl
attribute [simp] Tryz.underlying50
@[simp] theorem cells51 : Tryz.prog.cellsOf 51 = 1 := by kernel_rfl
@[simp] theorem infoS51 : (Tryz.prog.info? 51).isSome = true := by kernel_rfl
@[simp] theorem agg51 : aggT Tryz.prog 51 = some false := by kernel_rfl
theorem info51 : Tryz.prog.info? 51 = some Tryz.t51 := by kernel_rfl
attribute [simp] Tryz.underlying51
@[simp] theorem cells52 : Tryz.prog.cellsOf 52 = 1 := by kernel_rfl
@[simp] theorem infoS52 : (Tryz.prog.info? 52).isSome = true := by kernel_rfl
@[simp] theorem agg52 : aggT Tryz.prog 52 = some false := by kernel_rfl
theorem info52 : Tryz.prog.info? 52 = some Tryz.t52 := by kernel_rfl
attribute [simp] Tryz.underlying52
@[simp] theorem cells53 : Tryz.prog.cellsOf 53 = 1 := by kernel_rfl
@[simp] theorem infoS53 : (Tryz.prog.info? 53).isSome = true := by kernel_rfl
@[simp] theorem agg53 : aggT Tryz.prog 53 = some false := by kernel_rfl
theorem info53 : Tryz.prog.info? 53 = some Tryz.t53 := by kernel_rfl
attribute [simp] Tryz.underlying53
@[simp] theorem cells54 : Tryz.prog.cellsOf 54 = 1 := by kernel_rfl
@[simp] theorem infoS54 : (Tryz.prog.info? 54).isSome = true := by kernel_rfl
@[simp] theorem agg54 : aggT Tryz.prog 54 = some false := by kernel_rfl
theorem info54 : Tryz.prog.info? 54 = some Tryz.t54 := by kernel_rfl
attribute [simp] Tryz.underlying54
@[simp] theorem cells55 : Tryz.prog.cellsOf 55 = 11 := by kernel_rfl
@[simp] theorem infoS55 : (Tryz.prog.info? 55).isSome = true := by kernel_rfl
@[simp] theorem agg55 : aggT Tryz.prog 55 = some true := by kernel_rfl
theorem info55 : Tryz.prog.info? 55 = some Tryz.t55 := by kernel_rfl
attribute [simp] Tryz.underlying55
@[simp] theorem cells56 : Tryz.prog.cellsOf 56 = 11 := by kernel_rfl
@[simp] theorem infoS56 : (Tryz.prog.info? 56).isSome = true := by kernel_rfl
@[simp] theorem agg56 : aggT Tryz.prog 56 = some true := by kernel_rfl
theorem info56 : Tryz.prog.info? 56 = some Tryz.t56 := by kernel_rfl
attribute [simp] Tryz.underlying56
@[simp] theorem cells57 : Tryz.prog.cellsOf 57 = 1 := by kernel_rfl
@[simp] theorem infoS57 : (Tryz.prog.info? 57).isSome = true := by kernel_rfl
@[simp] theorem agg57 : aggT Tryz.prog 57 = some false := by kernel_rfl
theorem info57 : Tryz.prog.info? 57 = some Tryz.t57 := by kernel_rfl
attribute [simp] Tryz.underlying57
@[simp] theorem cells58 : Tryz.prog.cellsOf 58 = 4 := by kernel_rfl
@[simp] theorem infoS58 : (Tryz.prog.info? 58).isSome = true := by kernel_rfl
@[simp] theorem agg58 : aggT Tryz.prog 58 = some true := by kernel_rfl
theorem info58 : Tryz.prog.info? 58 = some Tryz.t58 := by kernel_rfl
attribute [simp] Tryz.underlying58
@[simp] theorem cells59 : Tryz.prog.cellsOf 59 = 4 := by kernel_rfl
@[simp] theorem infoS59 : (Tryz.prog.info? 59).isSome = true := by kernel_rfl
@[simp] theorem agg59 : aggT Tryz.prog 59 = some true := by kernel_rfl
theorem info59 : Tryz.prog.info? 59 = some Tryz.t59 := by kernel_rfl
attribute [simp] Tryz.underlying59
@[simp] theorem cells60 : Tryz.prog.cellsOf 60 = 1 := by kernel_rfl
@[simp] theorem infoS60 : (Tryz.prog.info? 60).isSome = true := by kernel_rfl
@[simp] theorem agg60 : aggT Tryz.prog 60 = some false := by kernel_rfl
theorem info60 : Tryz.prog.info? 60 = some Tryz.t60 := by kernel_rfl
attribute [simp] Tryz.underlying60
@[simp] theorem cells61 : Tryz.prog.cellsOf 61 = 1 := by kernel_rfl
@[simp] theorem infoS61 : (Tryz.prog.info? 61).isSome = true := by kernel_rfl
@[simp] theorem agg61 : aggT Tryz.prog 61 = some false := by kernel_rfl
theorem info61 : Tryz.prog.info? 61 = some Tryz.t61 := by kernel_rfl
attribute [simp] Tryz.underlying61
@[simp] theorem cells62 : Tryz.prog.cellsOf 62 = 1 := by kernel_rfl
@[simp] theorem infoS62 : (Tryz.prog.info? 62).isSome = true := by kernel_rfl
@[simp] theorem agg62 : aggT Tryz.prog 62 = some false := by kernel_rfl
theorem info62 : Tryz.prog.info? 62 = some Tryz.t62 := by kernel_rfl
attribute [simp] Tryz.underlying62
@[simp] theorem cells63 : Tryz.prog.cellsOf 63 = 1 := by kernel_rfl
@[simp] theorem infoS63 : (Tryz.prog.info? 63).isSome = true := by kernel_rfl
@[simp] theorem agg63 : aggT Tryz.prog 63 = some false := by kernel_rfl
theorem info63 : Tryz.prog.info? 63 = some Tryz.t63 := by kernel_rfl
attribute [simp] Tryz.underlying63
@[simp] theorem cells64 : Tryz.prog.cellsOf 64 = 6 := by kernel_rfl
@[simp] theorem infoS64 : (Tryz.prog.info? 64).isSome = true := by kernel_rfl
@[simp] theorem agg64 : aggT Tryz.prog 64 = some true := by kernel_rfl
theorem info64 : Tryz.prog.info? 64 = some Tryz.t64 := by kernel_rfl
attribute [simp] Tryz.underlying64
@[simp] theorem cells65 : Tryz.prog.cellsOf 65 = 6 := by kernel_rfl
@[simp] theorem infoS65 : (Tryz.prog.info? 65).isSome = true := by kernel_rfl
@[simp] theorem agg65 : aggT Tryz.prog 65 = some true := by kernel_rfl
theorem info65 : Tryz.prog.info? 65 = some Tryz.t65 := by kernel_rfl
attribute [simp] Tryz.underlying65
@[simp] theorem cells66 : Tryz.prog.cellsOf 66 = 1 := by kernel_rfl
@[simp] theorem infoS66 : (Tryz.prog.info? 66).isSome = true := by kernel_rfl
@[simp] theorem agg66 : aggT Tryz.prog 66 = some false := by kernel_rfl
theorem info66 : Tryz.prog.info? 66 = some Tryz.t66 := by kernel_rfl
attribute [simp] Tryz.underlying66
@[simp] theorem cells67 : Tryz.prog.cellsOf 67 = 1 := by kernel_rfl
@[simp] theorem infoS67 : (Tryz.prog.info? 67).isSome = true := by kernel_rfl
@[simp] theorem agg67 : aggT Tryz.prog 67 = some false := by kernel_rfl
theorem info67 : Tryz.prog.info? 67 = some Tryz.t67 := by kernel_rfl
attribute [simp] Tryz.underlying67
@[simp] theorem cells68 : Tryz.prog.cellsOf 68 = 1 := by kernel_rfl
@[simp] theorem infoS68 : (Tryz.prog.info? 68).isSome = true := by kernel_rfl
@[simp] theorem agg68 : aggT Tryz.prog 68 = some false := by kernel_rfl
theorem info68 : Tryz.prog.info? 68 = some Tryz.t68 := by kernel_rfl
attribute [simp] Tryz.underlying68
@[simp] theorem cells69 : Tryz.prog.cellsOf 69 = 2 := by kernel_rfl
@[simp] theorem infoS69 : (Tryz.prog.info? 69).isSome = true := by kernel_rfl
@[simp] theorem agg69 : aggT Tryz.prog 69 = some true := by kernel_rfl
theorem info69 : Tryz.prog.info? 69 = some Tryz.t69 := by kernel_rfl
attribute [simp] Tryz.underlying69
@[simp] theorem cells70 : Tryz.prog.cellsOf 70 = 2 := by kernel_rfl
@[simp] theorem infoS70 : (Tryz.prog.info? 70).isSome = true := by kernel_rfl
@[simp] theorem agg70 : aggT Tryz.prog 70 = some true := by kernel_rfl
theorem info70 : Tryz.prog.info? 70 = some Tryz.t70 := by kernel_rfl
attribute [simp] Tryz.underlying70
@[simp] theorem cells71 : Tryz.prog.cellsOf 71 = 1 := by kernel_rfl
@[simp] theorem infoS71 : (Tryz.prog.info? 71).isSome = true := by kernel_rfl
@[simp] theorem agg71 : aggT Tryz.prog 71 = some false := by kernel_rfl
theorem info71 : Tryz.prog.info? 71 = some Tryz.t71 := by kernel_rfl
attribute [simp] Tryz.underlying71
@[simp] theorem cells72 : Tryz.prog.cellsOf 72 = 1 := by kernel_rfl
@[simp] theorem infoS72 : (Tryz.prog.info? 72).isSome = true := by kernel_rfl
@[simp] theorem agg72 : aggT Tryz.prog 72 = some false := by kernel_rfl
theorem info72 : Tryz.prog.info? 72 = some Tryz.t72 := by kernel_rfl
attribute [simp] Tryz.underlying72
@[simp] theorem cells73 : Tryz.prog.cellsOf 73 = 1 := by kernel_rfl
@[simp] theorem infoS73 : (Tryz.prog.info? 73).isSome = true := by kernel_rfl
@[simp] theorem agg73 : aggT Tryz.prog 73 = some false := by kernel_rfl
theorem info73 : Tryz.prog.info? 73 = some Tryz.t73 := by kernel_rfl
attribute [simp] Tryz.underlying73
@[simp] theorem cells74 : Tryz.prog.cellsOf 74 = 4 := by kernel_rfl
@[simp] theorem infoS74 : (Tryz.prog.info? 74).isSome = true := by kernel_rfl
@[simp] theorem agg74 : aggT Tryz.prog 74 = some true := by kernel_rfl
theorem info74 : Tryz.prog.info? 74 = some Tryz.t74 := by kernel_rfl
attribute [simp] Tryz.underlying74
@[simp] theorem cells75 : Tryz.prog.cellsOf 75 = 4 := by kernel_rfl
@[simp] theorem infoS75 : (Tryz.prog.info? 75).isSome = true := by kernel_rfl
@[simp] theorem agg75 : aggT Tryz.prog 75 = some true := by kernel_rfl
theorem info75 : Tryz.prog.info? 75 = some Tryz.t75 := by kernel_rfl
attribute [simp] Tryz.underlying75
@[simp] theorem cells76 : Tryz.prog.cellsOf 76 = 1 := by kernel_rfl
@[simp] theorem infoS76 : (Tryz.prog.info? 76).isSome = true := by kernel_rfl
@[simp] theorem agg76 : aggT Tryz.prog 76 = some false := by kernel_rfl
theorem info76 : Tryz.prog.info? 76 = some Tryz.t76 := by kernel_rfl
attribute [simp] Tryz.underlying76
@[simp] theorem cells77 : Tryz.prog.cellsOf 77 = 1024 := by kernel_rfl
@[simp] theorem infoS77 : (Tryz.prog.info? 77).isSome = true := by kernel_rfl
@[simp] theorem agg77 : aggT Tryz.prog 77 = some true := by kernel_rfl
theorem info77 : Tryz.prog.info? 77 = some Tryz.t77 := by kernel_rfl
attribute [simp] Tryz.underlying77
@[simp] theorem cells78 : Tryz.prog.cellsOf 78 = 16 := by kernel_rfl
@[simp] theorem infoS78 : (Tryz.prog.info? 78).isSome = true := by kernel_rfl
@[simp] theorem agg78 : aggT Tryz.prog 78 = some true := by kernel_rfl
theorem info78 : Tryz.prog.info? 78 = some Tryz.t78 := by kernel_rfl
attribute [simp] Tryz.underlying78
@[simp] theorem cells79 : Tryz.prog.cellsOf 79 = 1040 := by kernel_rfl
@[simp] theorem infoS79 : (Tryz.prog.info? 79).isSome = true := by kernel_rfl
@[simp] theorem agg79 : aggT Tryz.prog 79 = some true := by kernel_rfl
theorem info79 : Tryz.prog.info? 79 = some Tryz.t79 := by kernel_rfl
attribute [simp] Tryz.underlying79
@[simp] theorem cells80 : Tryz.prog.cellsOf 80 = 1040 := by kernel_rfl
@[simp] theorem infoS80 : (Tryz.prog.info? 80).isSome = true := by kernel_rfl
@[simp] theorem agg80 : aggT Tryz.prog 80 = some true := by kernel_rfl
theorem info80 : Tryz.prog.info? 80 = some Tryz.t80 := by kernel_rfl
attribute [simp] Tryz.underlying80
@[simp] theorem cells81 : Tryz.prog.cellsOf 81 = 1 := by kernel_rfl
@[simp] theorem infoS81 : (Tryz.prog.info? 81).isSome = true := by kernel_rfl
@[simp] theorem agg81 : aggT Tryz.prog 81 = some false := by kernel_rfl
theorem info81 : Tryz.prog.info? 81 = some Tryz.t81 := by kernel_rfl
attribute [simp] Tryz.underlying81
@[simp] theorem cells82 : Tryz.prog.cellsOf 82 = 1 := by kernel_rfl
@[simp] theorem infoS82 : (Tryz.prog.info? 82).isSome = true := by kernel_rfl
@[simp] theorem agg82 : aggT Tryz.prog 82 = some false := by kernel_rfl
theorem info82 : Tryz.prog.info? 82 = some Tryz.t82 := by kernel_rfl
attribute [simp] Tryz.underlying82
@[simp] theorem cells83 : Tryz.prog.cellsOf 83 = 1 := by kernel_rfl
@[simp] theorem infoS83 : (Tryz.prog.info? 83).isSome = true := by kernel_rfl
@[simp] theorem agg83 : aggT Tryz.prog 83 = some false := by kernel_rfl
theorem info83 : Tryz.prog.info? 83 = some Tryz.t83 := by kernel_rfl
attribute [simp] Tryz.underlying83
@[simp] theorem cells84 : Tryz.prog.cellsOf 84 = 1 := by kernel_rfl
@[simp] theorem infoS84 : (Tryz.prog.info? 84).isSome = true := by kernel_rfl
@[simp] theorem agg84 : aggT Tryz.prog 84 = some false := by kernel_rfl
theorem info84 : Tryz.prog.info? 84 = some Tryz.t84 := by kernel_rfl
attribute [simp] Tryz.underlying84
@[simp] theorem cells85 : Tryz.prog.cellsOf 85 = 1 := by kernel_rfl
@[simp] theorem infoS85 : (Tryz.prog.info? 85).isSome = true := by kernel_rfl
@[simp] theorem agg85 : aggT Tryz.prog 85 = some false := by kernel_rfl
theorem info85 : Tryz.prog.info? 85 = some Tryz.t85 := by kernel_rfl
attribute [simp] Tryz.underlying85
@[simp] theorem cells86 : Tryz.prog.cellsOf 86 = 1 := by kernel_rfl
@[simp] theorem infoS86 : (Tryz.prog.info? 86).isSome = true := by kernel_rfl
@[simp] theorem agg86 : aggT Tryz.prog 86 = some false := by kernel_rfl
theorem info86 : Tryz.prog.info? 86 = some Tryz.t86 := by kernel_rfl
attribute [simp] Tryz.underlying86
@[simp] theorem cells87 : Tryz.prog.cellsOf 87 = 1 := by kernel_rfl
@[simp] theorem infoS87 : (Tryz.prog.info? 87).isSome = true := by kernel_rfl
@[simp] theorem agg87 : aggT Tryz.prog 87 = some false := by kernel_rfl
theorem info87 : Tryz.prog.info? 87 = some Tryz.t87 := by kernel_rfl
attribute [simp] Tryz.underlying87
@[simp] theorem cells88 : Tryz.prog.cellsOf 88 = 1 := by kernel_rfl
@[simp] theorem infoS88 : (Tryz.prog.info? 88).isSome = true := by kernel_rfl
@[simp] theorem agg88 : aggT Tryz.prog 88 = some false := by kernel_rfl
theorem info88 : Tryz.prog.info? 88 = some Tryz.t88 := by kernel_rfl
attribute [simp] Tryz.underlying88
@[simp] theorem cells89 : Tryz.prog.cellsOf 89 = 1 := by kernel_rfl
@[simp] theorem infoS89 : (Tryz.prog.info? 89).isSome = true := by kernel_rfl
@[simp] theorem agg89 : aggT Tryz.prog 89 = some false := by kernel_rfl
theorem info89 : Tryz.prog.info? 89 = some Tryz.t89 := by kernel_rfl
attribute [simp] Tryz.underlying89
@[simp] theorem cells90 : Tryz.prog.cellsOf 90 = 1 := by kernel_rfl
@[simp] theorem infoS90 : (Tryz.prog.info? 90).isSome = true := by kernel_rfl
@[simp] theorem agg90 : aggT Tryz.prog 90 = some false := by kernel_rfl
theorem info90 : Tryz.prog.info? 90 = some Tryz.t90 := by kernel_rfl
attribute [simp] Tryz.underlying90
@[simp] theorem cells91 : Tryz.prog.cellsOf 91 = 1 := by kernel_rfl
@[simp] theorem infoS91 : (Tryz.prog.info? 91).isSome = true := by kernel_rfl
@[simp] theorem agg91 : aggT Tryz.prog 91 = some false := by kernel_rfl
theorem info91 : Tryz.prog.info? 91 = some Tryz.t91 := by kernel_rfl
attribute [simp] Tryz.underlying91
@[simp] theorem cells92 : Tryz.prog.cellsOf 92 = 1 := by kernel_rfl
@[simp] theorem infoS92 : (Tryz.prog.info? 92).isSome = true := by kernel_rfl
@[simp] theorem agg92 : aggT Tryz.prog 92 = some false := by kernel_rfl
theorem info92 : Tryz.prog.info? 92 = some Tryz.t92 := by kernel_rfl
attribute [simp] Tryz.underlying92
@[simp] theorem cells93 : Tryz.prog.cellsOf 93 = 1 := by kernel_rfl
@[simp] theorem infoS93 : (Tryz.prog.info? 93).isSome = true := by kernel_rfl
@[simp] theorem agg93 : aggT Tryz.prog 93 = some false := by kernel_rfl
theorem info93 : Tryz.prog.info? 93 = some Tryz.t93 := by kernel_rfl
attribute [simp] Tryz.underlying93
@[simp] theorem cells94 : Tryz.prog.cellsOf 94 = 1 := by kernel_rfl
@[simp] theorem infoS94 : (Tryz.prog.info? 94).isSome = true := by kernel_rfl
@[simp] theorem agg94 : aggT Tryz.prog 94 = some false := by kernel_rfl
theorem info94 : Tryz.prog.info? 94 = some Tryz.t94 := by kernel_rfl
attribute [simp] Tryz.underlying94
@[simp] theorem cells95 : Tryz.prog.cellsOf 95 = 1 := by kernel_rfl
@[simp] theorem infoS95 : (Tryz.prog.info? 95).isSome = true := by kernel_rfl
@[simp] theorem agg95 : aggT Tryz.prog 95 = some false := by kernel_rfl
theorem info95 : Tryz.prog.info? 95 = some Tryz.t95 := by kernel_rfl
attribute [simp] Tryz.underlying95
@[simp] theorem cells96 : Tryz.prog.cellsOf 96 = 24 := by kernel_rfl
@[simp] theorem infoS96 : (Tryz.prog.info? 96).isSome = true := by kernel_rfl
@[simp] theorem agg96 : aggT Tryz.prog 96 = some true := by kernel_rfl
theorem info96 : Tryz.prog.info? 96 = some Tryz.t96 := by kernel_rfl
attribute [simp] Tryz.underlying96
@[simp] theorem cells97 : Tryz.prog.cellsOf 97 = 1 := by kernel_rfl
@[simp] theorem infoS97 : (Tryz.prog.info? 97).isSome = true := by kernel_rfl
@[simp] theorem agg97 : aggT Tryz.prog 97 = some false := by kernel_rfl
theorem info97 : Tryz.prog.info? 97 = some Tryz.t97 := by kernel_rfl
attribute [simp] Tryz.underlying97
@[simp] theorem cells98 : Tryz.prog.cellsOf 98 = 1 := by kernel_rfl
@[simp] theorem infoS98 : (Tryz.prog.info? 98).isSome = true := by kernel_rfl
@[simp] theorem agg98 : aggT Tryz.prog 98 = some false := by kernel_rfl
theorem info98 : Tryz.prog.info? 98 = some Tryz.t98 := by kernel_rfl
attribute [simp] Tryz.underlying98
@[simp] theorem cells99 : Tryz.prog.cellsOf 99 = 1 := by kernel_rfl
@[simp] theorem infoS99 : (Tryz.prog.info? 99).isSome = true := by kernel_rfl
@[simp] theorem agg99 : aggT Tryz.prog 99 = some false := by kernel_rfl
theorem info99 : Tryz.prog.info? 99 = some Tryz.t99 := by kernel_rfl
attribute [simp] Tryz.underlying99
@[simp] theorem cells100 : Tryz.prog.cellsOf 100 = 1 := by kernel_rfl
@[simp] theorem infoS100 : (Tryz.prog.info? 100).isSome = true := by kernel_rfl
@[simp] theorem agg100 : aggT Tryz.prog 100 = some false := by kernel_rfl
theorem info100 : Tryz.prog.info? 100 = some Tryz.t100 := by kernel_rfl
attribute [simp] Tryz.underlying100
@[simp] theorem cells101 : Tryz.prog.cellsOf 101 = 1 := by kernel_rfl
@[simp] theorem infoS101 : (Tryz.prog.info? 101).isSome = true := by kernel_rfl
@[simp] theorem agg101 : aggT Tryz.prog 101 = some false := by kernel_rfl
theorem info101 : Tryz.prog.info? 101 = some Tryz.t101 := by kernel_rfl
attribute [simp] Tryz.underlying101
@[simp] theorem cells102 : Tryz.prog.cellsOf 102 = 4096 := by kernel_rfl
@[simp] theorem infoS102 : (Tryz.prog.info? 102).isSome = true := by kernel_rfl
@[simp] theorem agg102 : aggT Tryz.prog 102 = some true := by kernel_rfl
theorem info102 : Tryz.prog.info? 102 = some Tryz.t102 := by kernel_rfl
attribute [simp] Tryz.underlying102
@[simp] theorem cells103 : Tryz.prog.cellsOf 103 = 4096 := by kernel_rfl
@[simp] theorem infoS103 : (Tryz.prog.info? 103).isSome = true := by kernel_rfl
@[simp] theorem agg103 : aggT Tryz.prog 103 = some true := by kernel_rfl
theorem info103 : Tryz.prog.info? 103 = some Tryz.t103 := by kernel_rfl
attribute [simp] Tryz.underlying103
@[simp] theorem cells104 : Tryz.prog.cellsOf 104 = 1 := by kernel_rfl
@[simp] theorem infoS104 : (Tryz.prog.info? 104).isSome = true := by kernel_rfl
@[simp] theorem agg104 : aggT Tryz.prog 104 = some false := by kernel_rfl
theorem info104 : Tryz.prog.info? 104 = some Tryz.t104 := by kernel_rfl
attribute [simp] Tryz.underlying104
@[simp] theorem cells105 : Tryz.prog.cellsOf 105 = 1 := by kernel_rfl
@[simp] theorem infoS105 : (Tryz.prog.info? 105).isSome = true := by kernel_rfl
@[simp] theorem agg105 : aggT Tryz.prog 105 = some false := by kernel_rfl
theorem info105 : Tryz.prog.info? 105 = some Tryz.t105 := by kernel_rfl
attribute [simp] Tryz.underlying105
@[simp] theorem cells106 : Tryz.prog.cellsOf 106 = 1 := by kernel_rfl
@[simp] theorem infoS106 : (Tryz.prog.info? 106).isSome = true := by kernel_rfl
@[simp] theorem agg106 : aggT Tryz.prog 106 = some false := by kernel_rfl
theorem info106 : Tryz.prog.info? 106 = some Tryz.t106 := by kernel_rfl
attribute [simp] Tryz.underlying106
@[simp] theorem cells107 : Tryz.prog.cellsOf 107 = 1 := by kernel_rfl
@[simp] theorem infoS107 : (Tryz.prog.info? 107).isSome = true := by kernel_rfl
@[simp] theorem agg107 : aggT Tryz.prog 107 = some false := by kernel_rfl
theorem info107 : Tryz.prog.info? 107 = some Tryz.t107 := by kernel_rfl
attribute [simp] Tryz.underlying107
@[simp] theorem cells108 : Tryz.prog.cellsOf 108 = 1 := by kernel_rfl
@[simp] theorem infoS108 : (Tryz.prog.info? 108).isSome = true := by kernel_rfl
@[simp] theorem agg108 : aggT Tryz.prog 108 = some true := by kernel_rfl
theorem info108 : Tryz.prog.info? 108 = some Tryz.t108 := by kernel_rfl
attribute [simp] Tryz.underlying108
@[simp] theorem cells109 : Tryz.prog.cellsOf 109 = 1 := by kernel_rfl
@[simp] theorem infoS109 : (Tryz.prog.info? 109).isSome = true := by kernel_rfl
@[simp] theorem agg109 : aggT Tryz.prog 109 = some true := by kernel_rfl
theorem info109 : Tryz.prog.info? 109 = some Tryz.t109 := by kernel_rfl
attribute [simp] Tryz.underlying109
@[simp] theorem cells110 : Tryz.prog.cellsOf 110 = 128 := by kernel_rfl
@[simp] theorem infoS110 : (Tryz.prog.info? 110).isSome = true := by kernel_rfl
@[simp] theorem agg110 : aggT Tryz.prog 110 = some true := by kernel_rfl
theorem info110 : Tryz.prog.info? 110 = some Tryz.t110 := by kernel_rfl
attribute [simp] Tryz.underlying110
@[simp] theorem cells111 : Tryz.prog.cellsOf 111 = 128 := by kernel_rfl
@[simp] theorem infoS111 : (Tryz.prog.info? 111).isSome = true := by kernel_rfl
@[simp] theorem agg111 : aggT Tryz.prog 111 = some true := by kernel_rfl
theorem info111 : Tryz.prog.info? 111 = some Tryz.t111 := by kernel_rfl
attribute [simp] Tryz.underlying111
@[simp] theorem cells112 : Tryz.prog.cellsOf 112 = 1 := by kernel_rfl
@[simp] theorem infoS112 : (Tryz.prog.info? 112).isSome = true := by kernel_rfl
@[simp] theorem agg112 : aggT Tryz.prog 112 = some false := by kernel_rfl
theorem info112 : Tryz.prog.info? 112 = some Tryz.t112 := by kernel_rfl
attribute [simp] Tryz.underlying112
@[simp] theorem cells113 : Tryz.prog.cellsOf 113 = 1 := by kernel_rfl
@[simp] theorem infoS113 : (Tryz.prog.info? 113).isSome = true := by kernel_rfl
@[simp] theorem agg113 : aggT Tryz.prog 113 = some false := by kernel_rfl
theorem info113 : Tryz.prog.info? 113 = some Tryz.t113 := by kernel_rfl
attribute [simp] Tryz.underlying113
@[simp] theorem cells114 : Tryz.prog.cellsOf 114 = 1 := by kernel_rfl
@[simp] theorem infoS114 : (Tryz.prog.info? 114).isSome = true := by kernel_rfl
@[simp] theorem agg114 : aggT Tryz.prog 114 = some false := by kernel_rfl
theorem info114 : Tryz.prog.info? 114 = some Tryz.t114 := by kernel_rfl
attribute [simp] Tryz.underlying114
@[simp] theorem cells115 : Tryz.prog.cellsOf 115 = 1 := by kernel_rfl
@[simp] theorem infoS115 : (Tryz.prog.info? 115).isSome = true := by kernel_rfl
@[simp] theorem agg115 : aggT Tryz.prog 115 = some false := by kernel_rfl
theorem info115 : Tryz.prog.info? 115 = some Tryz.t115 := by kernel_rfl
attribute [simp] Tryz.underlying115
@[simp] theorem cells116 : Tryz.prog.cellsOf 116 = 1 := by kernel_rfl
@[simp] theorem infoS116 : (Tryz.prog.info? 116).isSome = true := by kernel_rfl
@[simp] theorem agg116 : aggT Tryz.prog 116 = some false := by kernel_rfl
theorem info116 : Tryz.prog.info? 116 = some Tryz.t116 := by kernel_rfl
attribute [simp] Tryz.underlying116
@[simp] theorem cells117 : Tryz.prog.cellsOf 117 = 1 := by kernel_rfl
@[simp] theorem infoS117 : (Tryz.prog.info? 117).isSome = true := by kernel_rfl
@[simp] theorem agg117 : aggT Tryz.prog 117 = some false := by kernel_rfl
theorem info117 : Tryz.prog.info? 117 = some Tryz.t117 := by kernel_rfl
attribute [simp] Tryz.underlying117
@[simp] theorem cells118 : Tryz.prog.cellsOf 118 = 1 := by kernel_rfl
@[simp] theorem infoS118 : (Tryz.prog.info? 118).isSome = true := by kernel_rfl
@[simp] theorem agg118 : aggT Tryz.prog 118 = some false := by kernel_rfl
theorem info118 : Tryz.prog.info? 118 = some Tryz.t118 := by kernel_rfl
attribute [simp] Tryz.underlying118
@[simp] theorem cells119 : Tryz.prog.cellsOf 119 = 1 := by kernel_rfl
@[simp] theorem infoS119 : (Tryz.prog.info? 119).isSome = true := by kernel_rfl
@[simp] theorem agg119 : aggT Tryz.prog 119 = some false := by kernel_rfl
theorem info119 : Tryz.prog.info? 119 = some Tryz.t119 := by kernel_rfl
attribute [simp] Tryz.underlying119
@[simp] theorem cells120 : Tryz.prog.cellsOf 120 = 1 := by kernel_rfl
@[simp] theorem infoS120 : (Tryz.prog.info? 120).isSome = true := by kernel_rfl
@[simp] theorem agg120 : aggT Tryz.prog 120 = some false := by kernel_rfl
theorem info120 : Tryz.prog.info? 120 = some Tryz.t120 := by kernel_rfl
attribute [simp] Tryz.underlying120
@[simp] theorem cells121 : Tryz.prog.cellsOf 121 = 1 := by kernel_rfl
@[simp] theorem infoS121 : (Tryz.prog.info? 121).isSome = true := by kernel_rfl
@[simp] theorem agg121 : aggT Tryz.prog 121 = some false := by kernel_rfl
theorem info121 : Tryz.prog.info? 121 = some Tryz.t121 := by kernel_rfl
attribute [simp] Tryz.underlying121
@[simp] theorem cells122 : Tryz.prog.cellsOf 122 = 1 := by kernel_rfl
@[simp] theorem infoS122 : (Tryz.prog.info? 122).isSome = true := by kernel_rfl
@[simp] theorem agg122 : aggT Tryz.prog 122 = some false := by kernel_rfl
theorem info122 : Tryz.prog.info? 122 = some Tryz.t122 := by kernel_rfl
attribute [simp] Tryz.underlying122
@[simp] theorem cells123 : Tryz.prog.cellsOf 123 = 1 := by kernel_rfl
@[simp] theorem infoS123 : (Tryz.prog.info? 123).isSome = true := by kernel_rfl
@[simp] theorem agg123 : aggT Tryz.prog 123 = some false := by kernel_rfl
theorem info123 : Tryz.prog.info? 123 = some Tryz.t123 := by kernel_rfl
attribute [simp] Tryz.underlying123
@[simp] theorem cells124 : Tryz.prog.cellsOf 124 = 1 := by kernel_rfl
@[simp] theorem infoS124 : (Tryz.prog.info? 124).isSome = true := by kernel_rfl
@[simp] theorem agg124 : aggT Tryz.prog 124 = some false := by kernel_rfl
theorem info124 : Tryz.prog.info? 124 = some Tryz.t124 := by kernel_rfl
attribute [simp] Tryz.underlying124
@[simp] theorem cells125 : Tryz.prog.cellsOf 125 = 1 := by kernel_rfl
@[simp] theorem infoS125 : (Tryz.prog.info? 125).isSome = true := by kernel_rfl
@[simp] theorem agg125 : aggT Tryz.prog 125 = some false := by kernel_rfl
theorem info125 : Tryz.prog.info? 125 = some Tryz.t125 := by kernel_rfl
attribute [simp] Tryz.underlying125
@[simp] theorem cells126 : Tryz.prog.cellsOf 126 = 1 := by kernel_rfl
@[simp] theorem infoS126 : (Tryz.prog.info? 126).isSome = true := by kernel_rfl
@[simp] theorem agg126 : aggT Tryz.prog 126 = some false := by kernel_rfl
theorem info126 : Tryz.prog.info? 126 = some Tryz.t126 := by kernel_rfl
attribute [simp] Tryz.underlying126
@[simp] theorem cells127 : Tryz.prog.cellsOf 127 = 1 := by kernel_rfl
@[simp] theorem infoS127 : (Tryz.prog.info? 127).isSome = true := by kernel_rfl
@[simp] theorem agg127 : aggT Tryz.prog 127 = some false := by kernel_rfl
theorem info127 : Tryz.prog.info? 127 = some Tryz.t127 := by kernel_rfl
attribute [simp] Tryz.underlying127
@[simp] theorem cells128 : Tryz.prog.cellsOf 128 = 1 := by kernel_rfl
@[simp] theorem infoS128 : (Tryz.prog.info? 128).isSome = true := by kernel_rfl
@[simp] theorem agg128 : aggT Tryz.prog 128 = some false := by kernel_rfl
theorem info128 : Tryz.prog.info? 128 = some Tryz.t128 := by kernel_rfl
attribute [simp] Tryz.underlying128
@[simp] theorem cells129 : Tryz.prog.cellsOf 129 = 1 := by kernel_rfl
@[simp] theorem infoS129 : (Tryz.prog.info? 129).isSome = true := by kernel_rfl
@[simp] theorem agg129 : aggT Tryz.prog 129 = some false := by kernel_rfl
theorem info129 : Tryz.prog.info? 129 = some Tryz.t129 := by kernel_rfl
attribute [simp] Tryz.underlying129
@[simp] theorem cells130 : Tryz.prog.cellsOf 130 = 1 := by kernel_rfl
@[simp] theorem infoS130 : (Tryz.prog.info? 130).isSome = true := by kernel_rfl
@[simp] theorem agg130 : aggT Tryz.prog 130 = some false := by kernel_rfl
theorem info130 : Tryz.prog.info? 130 = some Tryz.t130 := by kernel_rfl
attribute [simp] Tryz.underlying130
@[simp] theorem cells131 : Tryz.prog.cellsOf 131 = 1 := by kernel_rfl
@[simp] theorem infoS131 : (Tryz.prog.info? 131).isSome = true := by kernel_rfl
@[simp] theorem agg131 : aggT Tryz.prog 131 = some false := by kernel_rfl
theorem info131 : Tryz.prog.info? 131 = some Tryz.t131 := by kernel_rfl
attribute [simp] Tryz.underlying131
@[simp] theorem cells132 : Tryz.prog.cellsOf 132 = 1 := by kernel_rfl
@[simp] theorem infoS132 : (Tryz.prog.info? 132).isSome = true := by kernel_rfl
@[simp] theorem agg132 : aggT Tryz.prog 132 = some false := by kernel_rfl
theorem info132 : Tryz.prog.info? 132 = some Tryz.t132 := by kernel_rfl
attribute [simp] Tryz.underlying132
@[simp] theorem cells133 : Tryz.prog.cellsOf 133 = 1 := by kernel_rfl
@[simp] theorem infoS133 : (Tryz.prog.info? 133).isSome = true := by kernel_rfl
@[simp] theorem agg133 : aggT Tryz.prog 133 = some false := by kernel_rfl
theorem info133 : Tryz.prog.info? 133 = some Tryz.t133 := by kernel_rfl
attribute [simp] Tryz.underlying133
@[simp] theorem cells134 : Tryz.prog.cellsOf 134 = 1 := by kernel_rfl
@[simp] theorem infoS134 : (Tryz.prog.info? 134).isSome = true := by kernel_rfl
@[simp] theorem agg134 : aggT Tryz.prog 134 = some false := by kernel_rfl
theorem info134 : Tryz.prog.info? 134 = some Tryz.t134 := by kernel_rfl
attribute [simp] Tryz.underlying134
@[simp] theorem cells135 : Tryz.prog.cellsOf 135 = 1 := by kernel_rfl
@[simp] theorem infoS135 : (Tryz.prog.info? 135).isSome = true := by kernel_rfl
@[simp] theorem agg135 : aggT Tryz.prog 135 = some false := by kernel_rfl
theorem info135 : Tryz.prog.info? 135 = some Tryz.t135 := by kernel_rfl
attribute [simp] Tryz.underlying135
@[simp] theorem cells136 : Tryz.prog.cellsOf 136 = 1 := by kernel_rfl
@[simp] theorem infoS136 : (Tryz.prog.info? 136).isSome = true := by kernel_rfl
@[simp] theorem agg136 : aggT Tryz.prog 136 = some false := by kernel_rfl
theorem info136 : Tryz.prog.info? 136 = some Tryz.t136 := by kernel_rfl
attribute [simp] Tryz.underlying136
@[simp] theorem cells137 : Tryz.prog.cellsOf 137 = 1 := by kernel_rfl
@[simp] theorem infoS137 : (Tryz.prog.info? 137).isSome = true := by kernel_rfl
@[simp] theorem agg137 : aggT Tryz.prog 137 = some false := by kernel_rfl
theorem info137 : Tryz.prog.info? 137 = some Tryz.t137 := by kernel_rfl
attribute [simp] Tryz.underlying137
@[simp] theorem cells138 : Tryz.prog.cellsOf 138 = 2 := by kernel_rfl
@[simp] theorem infoS138 : (Tryz.prog.info? 138).isSome = true := by kernel_rfl
@[simp] theorem agg138 : aggT Tryz.prog 138 = some true := by kernel_rfl
theorem info138 : Tryz.prog.info? 138 = some Tryz.t138 := by kernel_rfl
attribute [simp] Tryz.underlying138
@[simp] theorem cells139 : Tryz.prog.cellsOf 139 = 2 := by kernel_rfl
@[simp] theorem infoS139 : (Tryz.prog.info? 139).isSome = true := by kernel_rfl
@[simp] theorem agg139 : aggT Tryz.prog 139 = some true := by kernel_rfl
theorem info139 : Tryz.prog.info? 139 = some Tryz.t139 := by kernel_rfl
attribute [simp] Tryz.underlying139
@[simp] theorem cells140 : Tryz.prog.cellsOf 140 = 1 := by kernel_rfl
@[simp] theorem infoS140 : (Tryz.prog.info? 140).isSome = true := by kernel_rfl
@[simp] theorem agg140 : aggT Tryz.prog 140 = some false := by kernel_rfl
theorem info140 : Tryz.prog.info? 140 = some Tryz.t140 := by kernel_rfl
attribute [simp] Tryz.underlying140
@[simp] theorem cells141 : Tryz.prog.cellsOf 141 = 1 := by kernel_rfl
@[simp] theorem infoS141 : (Tryz.prog.info? 141).isSome = true := by kernel_rfl
@[simp] theorem agg141 : aggT Tryz.prog 141 = some false := by kernel_rfl
theorem info141 : Tryz.prog.info? 141 = some Tryz.t141 := by kernel_rfl
attribute [simp] Tryz.underlying141
@[simp] theorem cells142 : Tryz.prog.cellsOf 142 = 1 := by kernel_rfl
@[simp] theorem infoS142 : (Tryz.prog.info? 142).isSome = true := by kernel_rfl
@[simp] theorem agg142 : aggT Tryz.prog 142 = some false := by kernel_rfl
theorem info142 : Tryz.prog.info? 142 = some Tryz.t142 := by kernel_rfl
attribute [simp] Tryz.underlying142
@[simp] theorem cells143 : Tryz.prog.cellsOf 143 = 1 := by kernel_rfl
@[simp] theorem infoS143 : (Tryz.prog.info? 143).isSome = true := by kernel_rfl
@[simp] theorem agg143 : aggT Tryz.prog 143 = some false := by kernel_rfl
theorem info143 : Tryz.prog.info? 143 = some Tryz.t143 := by kernel_rfl
attribute [simp] Tryz.underlying143
@[simp] theorem cells144 : Tryz.prog.cellsOf 144 = 1 := by kernel_rfl
@[simp] theorem infoS144 : (Tryz.prog.info? 144).isSome = true := by kernel_rfl
@[simp] theorem agg144 : aggT Tryz.prog 144 = some false := by kernel_rfl
theorem info144 : Tryz.prog.info? 144 = some Tryz.t144 := by kernel_rfl
attribute [simp] Tryz.underlying144
@[simp] theorem cells145 : Tryz.prog.cellsOf 145 = 1 := by kernel_rfl
@[simp] theorem infoS145 : (Tryz.prog.info? 145).isSome = true := by kernel_rfl
@[simp] theorem agg145 : aggT Tryz.prog 145 = some false := by kernel_rfl
theorem info145 : Tryz.prog.info? 145 = some Tryz.t145 := by kernel_rfl
attribute [simp] Tryz.underlying145
@[simp] theorem cells146 : Tryz.prog.cellsOf 146 = 1 := by kernel_rfl
@[simp] theorem infoS146 : (Tryz.prog.info? 146).isSome = true := by kernel_rfl
@[simp] theorem agg146 : aggT Tryz.prog 146 = some false := by kernel_rfl
theorem info146 : Tryz.prog.info? 146 = some Tryz.t146 := by kernel_rfl
attribute [simp] Tryz.underlying146
@[simp] theorem cells147 : Tryz.prog.cellsOf 147 = 1 := by kernel_rfl
@[simp] theorem infoS147 : (Tryz.prog.info? 147).isSome = true := by kernel_rfl
@[simp] theorem agg147 : aggT Tryz.prog 147 = some false := by kernel_rfl
theorem info147 : Tryz.prog.info? 147 = some Tryz.t147 := by kernel_rfl
attribute [simp] Tryz.underlying147
@[simp] theorem cells148 : Tryz.prog.cellsOf 148 = 1 := by kernel_rfl
@[simp] theorem infoS148 : (Tryz.prog.info? 148).isSome = true := by kernel_rfl
@[simp] theorem agg148 : aggT Tryz.prog 148 = some false := by kernel_rfl
theorem info148 : Tryz.prog.info? 148 = some Tryz.t148 := by kernel_rfl
attribute [simp] Tryz.underlying148
@[simp] theorem cells149 : Tryz.prog.cellsOf 149 = 1 := by kernel_rfl
@[simp] theorem infoS149 : (Tryz.prog.info? 149).isSome = true := by kernel_rfl
@[simp] theorem agg149 : aggT Tryz.prog 149 = some false := by kernel_rfl
theorem info149 : Tryz.prog.info? 149 = some Tryz.t149 := by kernel_rfl
attribute [simp] Tryz.underlying149
@[simp] theorem cells150 : Tryz.prog.cellsOf 150 = 1 := by kernel_rfl
@[simp] theorem infoS150 : (Tryz.prog.info? 150).isSome = true := by kernel_rfl
@[simp] theorem agg150 : aggT Tryz.prog 150 = some false := by kernel_rfl
theorem info150 : Tryz.prog.info? 150 = some Tryz.t150 := by kernel_rfl
attribute [simp] Tryz.underlying150
@[simp] theorem cells151 : Tryz.prog.cellsOf 151 = 1 := by kernel_rfl
@[simp] theorem infoS151 : (Tryz.prog.info? 151).isSome = true := by kernel_rfl
@[simp] theorem agg151 : aggT Tryz.prog 151 = some false := by kernel_rfl
theorem info151 : Tryz.prog.info? 151 = some Tryz.t151 := by kernel_rfl
attribute [simp] Tryz.underlying151
@[simp] theorem cells152 : Tryz.prog.cellsOf 152 = 1 := by kernel_rfl
@[simp] theorem infoS152 : (Tryz.prog.info? 152).isSome = true := by kernel_rfl
@[simp] theorem agg152 : aggT Tryz.prog 152 = some false := by kernel_rfl
theorem info152 : Tryz.prog.info? 152 = some Tryz.t152 := by kernel_rfl
attribute [simp] Tryz.underlying152
@[simp] theorem cells153 : Tryz.prog.cellsOf 153 = 1 := by kernel_rfl
@[simp] theorem infoS153 : (Tryz.prog.info? 153).isSome = true := by kernel_rfl
@[simp] theorem agg153 : aggT Tryz.prog 153 = some false := by kernel_rfl
theorem info153 : Tryz.prog.info? 153 = some Tryz.t153 := by kernel_rfl
attribute [simp] Tryz.underlying153
@[simp] theorem cells154 : Tryz.prog.cellsOf 154 = 1 := by kernel_rfl
@[simp] theorem infoS154 : (Tryz.prog.info? 154).isSome = true := by kernel_rfl
@[simp] theorem agg154 : aggT Tryz.prog 154 = some false := by kernel_rfl
theorem info154 : Tryz.prog.info? 154 = some Tryz.t154 := by kernel_rfl
attribute [simp] Tryz.underlying154
@[simp] theorem cells155 : Tryz.prog.cellsOf 155 = 1 := by kernel_rfl
@[simp] theorem infoS155 : (Tryz.prog.info? 155).isSome = true := by kernel_rfl
@[simp] theorem agg155 : aggT Tryz.prog 155 = some false := by kernel_rfl
theorem info155 : Tryz.prog.info? 155 = some Tryz.t155 := by kernel_rfl
attribute [simp] Tryz.underlying155
@[simp] theorem cells156 : Tryz.prog.cellsOf 156 = 1 := by kernel_rfl
@[simp] theorem infoS156 : (Tryz.prog.info? 156).isSome = true := by kernel_rfl
@[simp] theorem agg156 : aggT Tryz.prog 156 = some false := by kernel_rfl
theorem info156 : Tryz.prog.info? 156 = some Tryz.t156 := by kernel_rfl
attribute [simp] Tryz.underlying156
@[simp] theorem cells157 : Tryz.prog.cellsOf 157 = 1 := by kernel_rfl
@[simp] theorem infoS157 : (Tryz.prog.info? 157).isSome = true := by kernel_rfl
@[simp] theorem agg157 : aggT Tryz.prog 157 = some false := by kernel_rfl
theorem info157 : Tryz.prog.info? 157 = some Tryz.t157 := by kernel_rfl
attribute [simp] Tryz.underlying157
@[simp] theorem cells158 : Tryz.prog.cellsOf 158 = 1 := by kernel_rfl
@[simp] theorem infoS158 : (Tryz.prog.info? 158).isSome = true := by kernel_rfl
@[simp] theorem agg158 : aggT Tryz.prog 158 = some false := by kernel_rfl
theorem info158 : Tryz.prog.info? 158 = some Tryz.t158 := by kernel_rfl
attribute [simp] Tryz.underlying158
@[simp] theorem cells159 : Tryz.prog.cellsOf 159 = 1 := by kernel_rfl
@[simp] theorem infoS159 : (Tryz.prog.info? 159).isSome = true := by kernel_rfl
@[simp] theorem agg159 : aggT Tryz.prog 159 = some false := by kernel_rfl
theorem info159 : Tryz.prog.info? 159 = some Tryz.t159 := by kernel_rfl
attribute [simp] Tryz.underlying159
@[simp] theorem cells160 : Tryz.prog.cellsOf 160 = 1 := by kernel_rfl
@[simp] theorem infoS160 : (Tryz.prog.info? 160).isSome = true := by kernel_rfl
@[simp] theorem agg160 : aggT Tryz.prog 160 = some false := by kernel_rfl
theorem info160 : Tryz.prog.info? 160 = some Tryz.t160 := by kernel_rfl
attribute [simp] Tryz.underlying160
@[simp] theorem cells161 : Tryz.prog.cellsOf 161 = 1 := by kernel_rfl
@[simp] theorem infoS161 : (Tryz.prog.info? 161).isSome = true := by kernel_rfl
@[simp] theorem agg161 : aggT Tryz.prog 161 = some false := by kernel_rfl
theorem info161 : Tryz.prog.info? 161 = some Tryz.t161 := by kernel_rfl
attribute [simp] Tryz.underlying161
@[simp] theorem cells162 : Tryz.prog.cellsOf 162 = 1 := by kernel_rfl
@[simp] theorem infoS162 : (Tryz.prog.info? 162).isSome = true := by kernel_rfl
@[simp] theorem agg162 : aggT Tryz.prog 162 = some false := by kernel_rfl
theorem info162 : Tryz.prog.info? 162 = some Tryz.t162 := by kernel_rfl
attribute [simp] Tryz.underlying162
@[simp] theorem cells163 : Tryz.prog.cellsOf 163 = 1 := by kernel_rfl
@[simp] theorem infoS163 : (Tryz.prog.info? 163).isSome = true := by kernel_rfl
@[simp] theorem agg163 : aggT Tryz.prog 163 = some false := by kernel_rfl
theorem info163 : Tryz.prog.info? 163 = some Tryz.t163 := by kernel_rfl
attribute [simp] Tryz.underlying163
@[simp] theorem cells164 : Tryz.prog.cellsOf 164 = 11 := by kernel_rfl
@[simp] theorem infoS164 : (Tryz.prog.info? 164).isSome = true := by kernel_rfl
@[simp] theorem agg164 : aggT Tryz.prog 164 = some true := by kernel_rfl
theorem info164 : Tryz.prog.info? 164 = some Tryz.t164 := by kernel_rfl
attribute [simp] Tryz.underlying164
@[simp] theorem cells165 : Tryz.prog.cellsOf 165 = 11 := by kernel_rfl
@[simp] theorem infoS165 : (Tryz.prog.info? 165).isSome = true := by kernel_rfl
@[simp] theorem agg165 : aggT Tryz.prog 165 = some true := by kernel_rfl
theorem info165 : Tryz.prog.info? 165 = some Tryz.t165 := by kernel_rfl
attribute [simp] Tryz.underlying165
@[simp] theorem cells166 : Tryz.prog.cellsOf 166 = 1 := by kernel_rfl
@[simp] theorem infoS166 : (Tryz.prog.info? 166).isSome = true := by kernel_rfl
@[simp] theorem agg166 : aggT Tryz.prog 166 = some false := by kernel_rfl
theorem info166 : Tryz.prog.info? 166 = some Tryz.t166 := by kernel_rfl
attribute [simp] Tryz.underlying166
@[simp] theorem cells167 : Tryz.prog.cellsOf 167 = 1 := by kernel_rfl
@[simp] theorem infoS167 : (Tryz.prog.info? 167).isSome = true := by kernel_rfl
@[simp] theorem agg167 : aggT Tryz.prog 167 = some false := by kernel_rfl
theorem info167 : Tryz.prog.info? 167 = some Tryz.t167 := by kernel_rfl
attribute [simp] Tryz.underlying167
@[simp] theorem cells168 : Tryz.prog.cellsOf 168 = 1 := by kernel_rfl
@[simp] theorem infoS168 : (Tryz.prog.info? 168).isSome = true := by kernel_rfl
@[simp] theorem agg168 : aggT Tryz.prog 168 = some false := by kernel_rfl
theorem info168 : Tryz.prog.info? 168 = some Tryz.t168 := by kernel_rfl
attribute [simp] Tryz.underlying168
@[simp] theorem cells169 : Tryz.prog.cellsOf 169 = 1 := by kernel_rfl
@[simp] theorem infoS169 : (Tryz.prog.info? 169).isSome = true := by kernel_rfl
@[simp] theorem agg169 : aggT Tryz.prog 169 = some false := by kernel_rfl
theorem info169 : Tryz.prog.info? 169 = some Tryz.t169 := by kernel_rfl
attribute [simp] Tryz.underlying169
@[simp] theorem cells170 : Tryz.prog.cellsOf 170 = 1 := by kernel_rfl
@[simp] theorem infoS170 : (Tryz.prog.info? 170).isSome = true := by kernel_rfl
@[simp] theorem agg170 : aggT Tryz.prog 170 = some false := by kernel_rfl
theorem info170 : Tryz.prog.info? 170 = some Tryz.t170 := by kernel_rfl
attribute [simp] Tryz.underlying170
@[simp] theorem cells171 : Tryz.prog.cellsOf 171 = 1 := by kernel_rfl
@[simp] theorem infoS171 : (Tryz.prog.info? 171).isSome = true := by kernel_rfl
@[simp] theorem agg171 : aggT Tryz.prog 171 = some false := by kernel_rfl
theorem info171 : Tryz.prog.info? 171 = some Tryz.t171 := by kernel_rfl
attribute [simp] Tryz.underlying171
@[simp] theorem cells172 : Tryz.prog.cellsOf 172 = 1 := by kernel_rfl
@[simp] theorem infoS172 : (Tryz.prog.info? 172).isSome = true := by kernel_rfl
@[simp] theorem agg172 : aggT Tryz.prog 172 = some false := by kernel_rfl
theorem info172 : Tryz.prog.info? 172 = some Tryz.t172 := by kernel_rfl
attribute [simp] Tryz.underlying172
@[simp] theorem cells173 : Tryz.prog.cellsOf 173 = 1 := by kernel_rfl
@[simp] theorem infoS173 : (Tryz.prog.info? 173).isSome = true := by kernel_rfl
@[simp] theorem agg173 : aggT Tryz.prog 173 = some false := by kernel_rfl
theorem info173 : Tryz.prog.info? 173 = some Tryz.t173 := by kernel_rfl
attribute [simp] Tryz.underlying173
@[simp] theorem cells174 : Tryz.prog.cellsOf 174 = 1 := by kernel_rfl
@[simp] theorem infoS174 : (Tryz.prog.info? 174).isSome = true := by kernel_rfl
@[simp] theorem agg174 : aggT Tryz.prog 174 = some false := by kernel_rfl
theorem info174 : Tryz.prog.info? 174 = some Tryz.t174 := by kernel_rfl
attribute [simp] Tryz.underlying174
@[simp] theorem cells175 : Tryz.prog.cellsOf 175 = 1 := by kernel_rfl
@[simp] theorem infoS175 : (Tryz.prog.info? 175).isSome = true := by kernel_rfl
@[simp] theorem agg175 : aggT Tryz.prog 175 = some false := by kernel_rfl
theorem info175 : Tryz.prog.info? 175 = some Tryz.t175 := by kernel_rfl
attribute [simp] Tryz.underlying175
@[simp] theorem cells176 : Tryz.prog.cellsOf 176 = 1 := by kernel_rfl
@[simp] theorem infoS176 : (Tryz.prog.info? 176).isSome = true := by kernel_rfl
@[simp] theorem agg176 : aggT Tryz.prog 176 = some false := by kernel_rfl
theorem info176 : Tryz.prog.info? 176 = some Tryz.t176 := by kernel_rfl
attribute [simp] Tryz.underlying176
@[simp] theorem cells177 : Tryz.prog.cellsOf 177 = 1 := by kernel_rfl
@[simp] theorem infoS177 : (Tryz.prog.info? 177).isSome = true := by kernel_rfl
@[simp] theorem agg177 : aggT Tryz.prog 177 = some false := by kernel_rfl
theorem info177 : Tryz.prog.info? 177 = some Tryz.t177 := by kernel_rfl
attribute [simp] Tryz.underlying177
@[simp] theorem cells178 : Tryz.prog.cellsOf 178 = 1 := by kernel_rfl
@[simp] theorem infoS178 : (Tryz.prog.info? 178).isSome = true := by kernel_rfl
@[simp] theorem agg178 : aggT Tryz.prog 178 = some false := by kernel_rfl
theorem info178 : Tryz.prog.info? 178 = some Tryz.t178 := by kernel_rfl
attribute [simp] Tryz.underlying178
@[simp] theorem cells179 : Tryz.prog.cellsOf 179 = 1 := by kernel_rfl
@[simp] theorem infoS179 : (Tryz.prog.info? 179).isSome = true := by kernel_rfl
@[simp] theorem agg179 : aggT Tryz.prog 179 = some false := by kernel_rfl
theorem info179 : Tryz.prog.info? 179 = some Tryz.t179 := by kernel_rfl
attribute [simp] Tryz.underlying179
@[simp] theorem cells180 : Tryz.prog.cellsOf 180 = 1 := by kernel_rfl
@[simp] theorem infoS180 : (Tryz.prog.info? 180).isSome = true := by kernel_rfl
@[simp] theorem agg180 : aggT Tryz.prog 180 = some false := by kernel_rfl
theorem info180 : Tryz.prog.info? 180 = some Tryz.t180 := by kernel_rfl
attribute [simp] Tryz.underlying180
@[simp] theorem cells181 : Tryz.prog.cellsOf 181 = 1 := by kernel_rfl
@[simp] theorem infoS181 : (Tryz.prog.info? 181).isSome = true := by kernel_rfl
@[simp] theorem agg181 : aggT Tryz.prog 181 = some false := by kernel_rfl
theorem info181 : Tryz.prog.info? 181 = some Tryz.t181 := by kernel_rfl
attribute [simp] Tryz.underlying181
@[simp] theorem cells182 : Tryz.prog.cellsOf 182 = 1 := by kernel_rfl
@[simp] theorem infoS182 : (Tryz.prog.info? 182).isSome = true := by kernel_rfl
@[simp] theorem agg182 : aggT Tryz.prog 182 = some false := by kernel_rfl
theorem info182 : Tryz.prog.info? 182 = some Tryz.t182 := by kernel_rfl
attribute [simp] Tryz.underlying182
@[simp] theorem cells183 : Tryz.prog.cellsOf 183 = 1 := by kernel_rfl
@[simp] theorem infoS183 : (Tryz.prog.info? 183).isSome = true := by kernel_rfl
@[simp] theorem agg183 : aggT Tryz.prog 183 = some false := by kernel_rfl
theorem info183 : Tryz.prog.info? 183 = some Tryz.t183 := by kernel_rfl
attribute [simp] Tryz.underlying183
@[simp] theorem cells184 : Tryz.prog.cellsOf 184 = 1 := by kernel_rfl
@[simp] theorem infoS184 : (Tryz.prog.info? 184).isSome = true := by kernel_rfl
@[simp] theorem agg184 : aggT Tryz.prog 184 = some false := by kernel_rfl
theorem info184 : Tryz.prog.info? 184 = some Tryz.t184 := by kernel_rfl
attribute [simp] Tryz.underlying184
@[simp] theorem cells185 : Tryz.prog.cellsOf 185 = 1 := by kernel_rfl
@[simp] theorem infoS185 : (Tryz.prog.info? 185).isSome = true := by kernel_rfl
@[simp] theorem agg185 : aggT Tryz.prog 185 = some false := by kernel_rfl
theorem info185 : Tryz.prog.info? 185 = some Tryz.t185 := by kernel_rfl
attribute [simp] Tryz.underlying185
@[simp] theorem cells186 : Tryz.prog.cellsOf 186 = 1 := by kernel_rfl
@[simp] theorem infoS186 : (Tryz.prog.info? 186).isSome = true := by kernel_rfl
@[simp] theorem agg186 : aggT Tryz.prog 186 = some false := by kernel_rfl
theorem info186 : Tryz.prog.info? 186 = some Tryz.t186 := by kernel_rfl
attribute [simp] Tryz.underlying186
@[simp] theorem cells187 : Tryz.prog.cellsOf 187 = 3 := by kernel_rfl
@[simp] theorem infoS187 : (Tryz.prog.info? 187).isSome = true := by kernel_rfl
@[simp] theorem agg187 : aggT Tryz.prog 187 = some true := by kernel_rfl
theorem info187 : Tryz.prog.info? 187 = some Tryz.t187 := by kernel_rfl
attribute [simp] Tryz.underlying187
@[simp] theorem cells188 : Tryz.prog.cellsOf 188 = 3 := by kernel_rfl
@[simp] theorem infoS188 : (Tryz.prog.info? 188).isSome = true := by kernel_rfl
@[simp] theorem agg188 : aggT Tryz.prog 188 = some true := by kernel_rfl
theorem info188 : Tryz.prog.info? 188 = some Tryz.t188 := by kernel_rfl
attribute [simp] Tryz.underlying188
@[simp] theorem cells189 : Tryz.prog.cellsOf 189 = 1 := by kernel_rfl
@[simp] theorem infoS189 : (Tryz.prog.info? 189).isSome = true := by kernel_rfl
@[simp] theorem agg189 : aggT Tryz.prog 189 = some false := by kernel_rfl
theorem info189 : Tryz.prog.info? 189 = some Tryz.t189 := by kernel_rfl
attribute [simp] Tryz.underlying189
@[simp] theorem cells190 : Tryz.prog.cellsOf 190 = 1 := by kernel_rfl
@[simp] theorem infoS190 : (Tryz.prog.info? 190).isSome = true := by kernel_rfl
@[simp] theorem agg190 : aggT Tryz.prog 190 = some false := by kernel_rfl
theorem info190 : Tryz.prog.info? 190 = some Tryz.t190 := by kernel_rfl
attribute [simp] Tryz.underlying190
@[simp] theorem cells191 : Tryz.prog.cellsOf 191 = 1 := by kernel_rfl
@[simp] theorem infoS191 : (Tryz.prog.info? 191).isSome = true := by kernel_rfl
@[simp] theorem agg191 : aggT Tryz.prog 191 = some false := by kernel_rfl
theorem info191 : Tryz.prog.info? 191 = some Tryz.t191 := by kernel_rfl
attribute [simp] Tryz.underlying191
@[simp] theorem cells192 : Tryz.prog.cellsOf 192 = 1 := by kernel_rfl
@[simp] theorem infoS192 : (Tryz.prog.info? 192).isSome = true := by kernel_rfl
@[simp] theorem agg192 : aggT Tryz.prog 192 = some false := by kernel_rfl
theorem info192 : Tryz.prog.info? 192 = some Tryz.t192 := by kernel_rfl
attribute [simp] Tryz.underlying192
@[simp] theorem cells193 : Tryz.prog.cellsOf 193 = 1 := by kernel_rfl
@[simp] theorem infoS193 : (Tryz.prog.info? 193).isSome = true := by kernel_rfl
@[simp] theorem agg193 : aggT Tryz.prog 193 = some false := by kernel_rfl
theorem info193 : Tryz.prog.info? 193 = some Tryz.t193 := by kernel_rfl
attribute [simp] Tryz.underlying193
@[simp] theorem cells194 : Tryz.prog.cellsOf 194 = 1 := by kernel_rfl
@[simp] theorem infoS194 : (Tryz.prog.info? 194).isSome = true := by kernel_rfl
@[simp] theorem agg194 : aggT Tryz.prog 194 = some false := by kernel_rfl
theorem info194 : Tryz.prog.info? 194 = some Tryz.t194 := by kernel_rfl
attribute [simp] Tryz.underlying194
@[simp] theorem cells195 : Tryz.prog.cellsOf 195 = 1 := by kernel_rfl
@[simp] theorem infoS195 : (Tryz.prog.info? 195).isSome = true := by kernel_rfl
@[simp] theorem agg195 : aggT Tryz.prog 195 = some false := by kernel_rfl
theorem info195 : Tryz.prog.info? 195 = some Tryz.t195 := by kernel_rfl
attribute [simp] Tryz.underlying195
@[simp] theorem cells196 : Tryz.prog.cellsOf 196 = 1 := by kernel_rfl
@[simp] theorem infoS196 : (Tryz.prog.info? 196).isSome = true := by kernel_rfl
@[simp] theorem agg196 : aggT Tryz.prog 196 = some false := by kernel_rfl
theorem info196 : Tryz.prog.info? 196 = some Tryz.t196 := by kernel_rfl
attribute [simp] Tryz.underlying196
@[simp] theorem cells197 : Tryz.prog.cellsOf 197 = 1 := by kernel_rfl
@[simp] theorem infoS197 : (Tryz.prog.info? 197).isSome = true := by kernel_rfl
@[simp] theorem agg197 : aggT Tryz.prog 197 = some false := by kernel_rfl
theorem info197 : Tryz.prog.info? 197 = some Tryz.t197 := by kernel_rfl
attribute [simp] Tryz.underlying197
@[simp] theorem cells198 : Tryz.prog.cellsOf 198 = 1 := by kernel_rfl
@[simp] theorem infoS198 : (Tryz.prog.info? 198).isSome = true := by kernel_rfl
@[simp] theorem agg198 : aggT Tryz.prog 198 = some false := by kernel_rfl
theorem info198 : Tryz.prog.info? 198 = some Tryz.t198 := by kernel_rfl
attribute [simp] Tryz.underlying198
@[simp] theorem cells199 : Tryz.prog.cellsOf 199 = 1 := by kernel_rfl
@[simp] theorem infoS199 : (Tryz.prog.info? 199).isSome = true := by kernel_rfl
@[simp] theorem agg199 : aggT Tryz.prog 199 = some false := by kernel_rfl
theorem info199 : Tryz.prog.info? 199 = some Tryz.t199 := by kernel_rfl
attribute [simp] Tryz.underlying199
@[simp] theorem cells200 : Tryz.prog.cellsOf 200 = 1 := by kernel_rfl
@[simp] theorem infoS200 : (Tryz.prog.info? 200).isSome = true := by kernel_rfl
@[simp] theorem agg200 : aggT Tryz.prog 200 = some false := by kernel_rfl
theorem info200 : Tryz.prog.info? 200 = some Tryz.t200 := by kernel_rfl
attribute [simp] Tryz.underlying200
@[simp] theorem cells201 : Tryz.prog.cellsOf 201 = 1 := by kernel_rfl
@[simp] theorem infoS201 : (Tryz.prog.info? 201).isSome = true := by kernel_rfl
@[simp] theorem agg201 : aggT Tryz.prog 201 = some false := by kernel_rfl
theorem info201 : Tryz.prog.info? 201 = some Tryz.t201 := by kernel_rfl
attribute [simp] Tryz.underlying201
@[simp] theorem cells202 : Tryz.prog.cellsOf 202 = 1 := by kernel_rfl
@[simp] theorem infoS202 : (Tryz.prog.info? 202).isSome = true := by kernel_rfl
@[simp] theorem agg202 : aggT Tryz.prog 202 = some false := by kernel_rfl
theorem info202 : Tryz.prog.info? 202 = some Tryz.t202 := by kernel_rfl
attribute [simp] Tryz.underlying202
@[simp] theorem cells203 : Tryz.prog.cellsOf 203 = 1 := by kernel_rfl
@[simp] theorem infoS203 : (Tryz.prog.info? 203).isSome = true := by kernel_rfl
@[simp] theorem agg203 : aggT Tryz.prog 203 = some false := by kernel_rfl
theorem info203 : Tryz.prog.info? 203 = some Tryz.t203 := by kernel_rfl
attribute [simp] Tryz.underlying203
@[simp] theorem cells204 : Tryz.prog.cellsOf 204 = 1 := by kernel_rfl
@[simp] theorem infoS204 : (Tryz.prog.info? 204).isSome = true := by kernel_rfl
@[simp] theorem agg204 : aggT Tryz.prog 204 = some false := by kernel_rfl
theorem info204 : Tryz.prog.info? 204 = some Tryz.t204 := by kernel_rfl
attribute [simp] Tryz.underlying204
@[simp] theorem cells205 : Tryz.prog.cellsOf 205 = 1 := by kernel_rfl
@[simp] theorem infoS205 : (Tryz.prog.info? 205).isSome = true := by kernel_rfl
@[simp] theorem agg205 : aggT Tryz.prog 205 = some false := by kernel_rfl
theorem info205 : Tryz.prog.info? 205 = some Tryz.t205 := by kernel_rfl
attribute [simp] Tryz.underlying205
@[simp] theorem cells206 : Tryz.prog.cellsOf 206 = 1 := by kernel_rfl
@[simp] theorem infoS206 : (Tryz.prog.info? 206).isSome = true := by kernel_rfl
@[simp] theorem agg206 : aggT Tryz.prog 206 = some false := by kernel_rfl
theorem info206 : Tryz.prog.info? 206 = some Tryz.t206 := by kernel_rfl
attribute [simp] Tryz.underlying206
@[simp] theorem cells207 : Tryz.prog.cellsOf 207 = 1 := by kernel_rfl
@[simp] theorem infoS207 : (Tryz.prog.info? 207).isSome = true := by kernel_rfl
@[simp] theorem agg207 : aggT Tryz.prog 207 = some false := by kernel_rfl
theorem info207 : Tryz.prog.info? 207 = some Tryz.t207 := by kernel_rfl
attribute [simp] Tryz.underlying207
@[simp] theorem cells208 : Tryz.prog.cellsOf 208 = 1 := by kernel_rfl
@[simp] theorem infoS208 : (Tryz.prog.info? 208).isSome = true := by kernel_rfl
@[simp] theorem agg208 : aggT Tryz.prog 208 = some false := by kernel_rfl
theorem info208 : Tryz.prog.info? 208 = some Tryz.t208 := by kernel_rfl
attribute [simp] Tryz.underlying208
@[simp] theorem cells209 : Tryz.prog.cellsOf 209 = 1 := by kernel_rfl
@[simp] theorem infoS209 : (Tryz.prog.info? 209).isSome = true := by kernel_rfl
@[simp] theorem agg209 : aggT Tryz.prog 209 = some false := by kernel_rfl
theorem info209 : Tryz.prog.info? 209 = some Tryz.t209 := by kernel_rfl
attribute [simp] Tryz.underlying209
@[simp] theorem cells210 : Tryz.prog.cellsOf 210 = 1 := by kernel_rfl
@[simp] theorem infoS210 : (Tryz.prog.info? 210).isSome = true := by kernel_rfl
@[simp] theorem agg210 : aggT Tryz.prog 210 = some false := by kernel_rfl
theorem info210 : Tryz.prog.info? 210 = some Tryz.t210 := by kernel_rfl
attribute [simp] Tryz.underlying210
@[simp] theorem cells211 : Tryz.prog.cellsOf 211 = 1 := by kernel_rfl
@[simp] theorem infoS211 : (Tryz.prog.info? 211).isSome = true := by kernel_rfl
@[simp] theorem agg211 : aggT Tryz.prog 211 = some false := by kernel_rfl
theorem info211 : Tryz.prog.info? 211 = some Tryz.t211 := by kernel_rfl
attribute [simp] Tryz.underlying211
@[simp] theorem cells212 : Tryz.prog.cellsOf 212 = 1 := by kernel_rfl
@[simp] theorem infoS212 : (Tryz.prog.info? 212).isSome = true := by kernel_rfl
@[simp] theorem agg212 : aggT Tryz.prog 212 = some false := by kernel_rfl
theorem info212 : Tryz.prog.info? 212 = some Tryz.t212 := by kernel_rfl
attribute [simp] Tryz.underlying212
@[simp] theorem cells213 : Tryz.prog.cellsOf 213 = 1 := by kernel_rfl
@[simp] theorem infoS213 : (Tryz.prog.info? 213).isSome = true := by kernel_rfl
@[simp] theorem agg213 : aggT Tryz.prog 213 = some false := by kernel_rfl
theorem info213 : Tryz.prog.info? 213 = some Tryz.t213 := by kernel_rfl
attribute [simp] Tryz.underlying213
@[simp] theorem cells214 : Tryz.prog.cellsOf 214 = 1 := by kernel_rfl
@[simp] theorem infoS214 : (Tryz.prog.info? 214).isSome = true := by kernel_rfl
@[simp] theorem agg214 : aggT Tryz.prog 214 = some false := by kernel_rfl
theorem info214 : Tryz.prog.info? 214 = some Tryz.t214 := by kernel_rfl
attribute [simp] Tryz.underlying214
@[simp] theorem cells215 : Tryz.prog.cellsOf 215 = 1 := by kernel_rfl
@[simp] theorem infoS215 : (Tryz.prog.info? 215).isSome = true := by kernel_rfl
@[simp] theorem agg215 : aggT Tryz.prog 215 = some false := by kernel_rfl
theorem info215 : Tryz.prog.info? 215 = some Tryz.t215 := by kernel_rfl
attribute [simp] Tryz.underlying215
@[simp] theorem cells216 : Tryz.prog.cellsOf 216 = 1 := by kernel_rfl
@[simp] theorem infoS216 : (Tryz.prog.info? 216).isSome = true := by kernel_rfl
@[simp] theorem agg216 : aggT Tryz.prog 216 = some false := by kernel_rfl
theorem info216 : Tryz.prog.info? 216 = some Tryz.t216 := by kernel_rfl
attribute [simp] Tryz.underlying216
@[simp] theorem cells217 : Tryz.prog.cellsOf 217 = 1 := by kernel_rfl
@[simp] theorem infoS217 : (Tryz.prog.info? 217).isSome = true := by kernel_rfl
@[simp] theorem agg217 : aggT Tryz.prog 217 = some false := by kernel_rfl
theorem info217 : Tryz.prog.info? 217 = some Tryz.t217 := by kernel_rfl
attribute [simp] Tryz.underlying217
@[simp] theorem cells218 : Tryz.prog.cellsOf 218 = 1 := by kernel_rfl
@[simp] theorem infoS218 : (Tryz.prog.info? 218).isSome = true := by kernel_rfl
@[simp] theorem agg218 : aggT Tryz.prog 218 = some false := by kernel_rfl
theorem info218 : Tryz.prog.info? 218 = some Tryz.t218 := by kernel_rfl
attribute [simp] Tryz.underlying218
@[simp] theorem cells219 : Tryz.prog.cellsOf 219 = 1 := by kernel_rfl
@[simp] theorem infoS219 : (Tryz.prog.info? 219).isSome = true := by kernel_rfl
@[simp] theorem agg219 : aggT Tryz.prog 219 = some false := by kernel_rfl
theorem info219 : Tryz.prog.info? 219 = some Tryz.t219 := by kernel_rfl
attribute [simp] Tryz.underlying219
@[simp] theorem cells220 : Tryz.prog.cellsOf 220 = 1 := by kernel_rfl
@[simp] theorem infoS220 : (Tryz.prog.info? 220).isSome = true := by kernel_rfl
@[simp] theorem agg220 : aggT Tryz.prog 220 = some false := by kernel_rfl
theorem info220 : Tryz.prog.info? 220 = some Tryz.t220 := by kernel_rfl
attribute [simp] Tryz.underlying220
@[simp] theorem cells221 : Tryz.prog.cellsOf 221 = 1 := by kernel_rfl
@[simp] theorem infoS221 : (Tryz.prog.info? 221).isSome = true := by kernel_rfl
@[simp] theorem agg221 : aggT Tryz.prog 221 = some false := by kernel_rfl
theorem info221 : Tryz.prog.info? 221 = some Tryz.t221 := by kernel_rfl
attribute [simp] Tryz.underlying221
@[simp] theorem cells222 : Tryz.prog.cellsOf 222 = 1 := by kernel_rfl
@[simp] theorem infoS222 : (Tryz.prog.info? 222).isSome = true := by kernel_rfl
@[simp] theorem agg222 : aggT Tryz.prog 222 = some false := by kernel_rfl
theorem info222 : Tryz.prog.info? 222 = some Tryz.t222 := by kernel_rfl
attribute [simp] Tryz.underlying222
@[simp] theorem cells223 : Tryz.prog.cellsOf 223 = 1 := by kernel_rfl
@[simp] theorem infoS223 : (Tryz.prog.info? 223).isSome = true := by kernel_rfl
@[simp] theorem agg223 : aggT Tryz.prog 223 = some false := by kernel_rfl
theorem info223 : Tryz.prog.info? 223 = some Tryz.t223 := by kernel_rfl
attribute [simp] Tryz.underlying223
@[simp] theorem cells224 : Tryz.prog.cellsOf 224 = 1 := by kernel_rfl
@[simp] theorem infoS224 : (Tryz.prog.info? 224).isSome = true := by kernel_rfl
@[simp] theorem agg224 : aggT Tryz.prog 224 = some false := by kernel_rfl
theorem info224 : Tryz.prog.info? 224 = some Tryz.t224 := by kernel_rfl
attribute [simp] Tryz.underlying224
@[simp] theorem cells225 : Tryz.prog.cellsOf 225 = 1 := by kernel_rfl
@[simp] theorem infoS225 : (Tryz.prog.info? 225).isSome = true := by kernel_rfl
@[simp] theorem agg225 : aggT Tryz.prog 225 = some false := by kernel_rfl
theorem info225 : Tryz.prog.info? 225 = some Tryz.t225 := by kernel_rfl
attribute [simp] Tryz.underlying225
@[simp] theorem cells226 : Tryz.prog.cellsOf 226 = 1 := by kernel_rfl
@[simp] theorem infoS226 : (Tryz.prog.info? 226).isSome = true := by kernel_rfl
@[simp] theorem agg226 : aggT Tryz.prog 226 = some false := by kernel_rfl
theorem info226 : Tryz.prog.info? 226 = some Tryz.t226 := by kernel_rfl
attribute [simp] Tryz.underlying226
@[simp] theorem cells227 : Tryz.prog.cellsOf 227 = 1 := by kernel_rfl
@[simp] theorem infoS227 : (Tryz.prog.info? 227).isSome = true := by kernel_rfl
@[simp] theorem agg227 : aggT Tryz.prog 227 = some false := by kernel_rfl
theorem info227 : Tryz.prog.info? 227 = some Tryz.t227 := by kernel_rfl
attribute [simp] Tryz.underlying227
@[simp] theorem cells228 : Tryz.prog.cellsOf 228 = 1 := by kernel_rfl
@[simp] theorem infoS228 : (Tryz.prog.info? 228).isSome = true := by kernel_rfl
@[simp] theorem agg228 : aggT Tryz.prog 228 = some false := by kernel_rfl
theorem info228 : Tryz.prog.info? 228 = some Tryz.t228 := by kernel_rfl
attribute [simp] Tryz.underlying228
@[simp] theorem cells229 : Tryz.prog.cellsOf 229 = 1 := by kernel_rfl
@[simp] theorem infoS229 : (Tryz.prog.info? 229).isSome = true := by kernel_rfl
@[simp] theorem agg229 : aggT Tryz.prog 229 = some false := by kernel_rfl
theorem info229 : Tryz.prog.info? 229 = some Tryz.t229 := by kernel_rfl
attribute [simp] Tryz.underlying229
@[simp] theorem cells230 : Tryz.prog.cellsOf 230 = 1 := by kernel_rfl
@[simp] theorem infoS230 : (Tryz.prog.info? 230).isSome = true := by kernel_rfl
@[simp] theorem agg230 : aggT Tryz.prog 230 = some false := by kernel_rfl
theorem info230 : Tryz.prog.info? 230 = some Tryz.t230 := by kernel_rfl
attribute [simp] Tryz.underlying230
@[simp] theorem cells231 : Tryz.prog.cellsOf 231 = 1 := by kernel_rfl
@[simp] theorem infoS231 : (Tryz.prog.info? 231).isSome = true := by kernel_rfl
@[simp] theorem agg231 : aggT Tryz.prog 231 = some false := by kernel_rfl
theorem info231 : Tryz.prog.info? 231 = some Tryz.t231 := by kernel_rfl
attribute [simp] Tryz.underlying231
@[simp] theorem cells232 : Tryz.prog.cellsOf 232 = 1 := by kernel_rfl
@[simp] theorem infoS232 : (Tryz.prog.info? 232).isSome = true := by kernel_rfl
@[simp] theorem agg232 : aggT Tryz.prog 232 = some false := by kernel_rfl
theorem info232 : Tryz.prog.info? 232 = some Tryz.t232 := by kernel_rfl
attribute [simp] Tryz.underlying232
@[simp] theorem cells233 : Tryz.prog.cellsOf 233 = 1 := by kernel_rfl
@[simp] theorem infoS233 : (Tryz.prog.info? 233).isSome = true := by kernel_rfl
@[simp] theorem agg233 : aggT Tryz.prog 233 = some false := by kernel_rfl
theorem info233 : Tryz.prog.info? 233 = some Tryz.t233 := by kernel_rfl
attribute [simp] Tryz.underlying233
@[simp] theorem cells234 : Tryz.prog.cellsOf 234 = 1 := by kernel_rfl
@[simp] theorem infoS234 : (Tryz.prog.info? 234).isSome = true := by kernel_rfl
@[simp] theorem agg234 : aggT Tryz.prog 234 = some false := by kernel_rfl
theorem info234 : Tryz.prog.info? 234 = some Tryz.t234 := by kernel_rfl
attribute [simp] Tryz.underlying234
@[simp] theorem cells235 : Tryz.prog.cellsOf 235 = 1 := by kernel_rfl
@[simp] theorem infoS235 : (Tryz.prog.info? 235).isSome = true := by kernel_rfl
@[simp] theorem agg235 : aggT Tryz.prog 235 = some false := by kernel_rfl
theorem info235 : Tryz.prog.info? 235 = some Tryz.t235 := by kernel_rfl
attribute [simp] Tryz.underlying235
@[simp] theorem cells236 : Tryz.prog.cellsOf 236 = 1 := by kernel_rfl
@[simp] theorem infoS236 : (Tryz.prog.info? 236).isSome = true := by kernel_rfl
@[simp] theorem agg236 : aggT Tryz.prog 236 = some false := by kernel_rfl
theorem info236 : Tryz.prog.info? 236 = some Tryz.t236 := by kernel_rfl
attribute [simp] Tryz.underlying236
@[simp] theorem cells237 : Tryz.prog.cellsOf 237 = 1 := by kernel_rfl
@[simp] theorem infoS237 : (Tryz.prog.info? 237).isSome = true := by kernel_rfl
@[simp] theorem agg237 : aggT Tryz.prog 237 = some false := by kernel_rfl
theorem info237 : Tryz.prog.info? 237 = some Tryz.t237 := by kernel_rfl
attribute [simp] Tryz.underlying237
@[simp] theorem cells238 : Tryz.prog.cellsOf 238 = 129 := by kernel_rfl
@[simp] theorem infoS238 : (Tryz.prog.info? 238).isSome = true := by kernel_rfl
@[simp] theorem agg238 : aggT Tryz.prog 238 = some true := by kernel_rfl
theorem info238 : Tryz.prog.info? 238 = some Tryz.t238 := by kernel_rfl
attribute [simp] Tryz.underlying238
@[simp] theorem cells239 : Tryz.prog.cellsOf 239 = 129 := by kernel_rfl
@[simp] theorem infoS239 : (Tryz.prog.info? 239).isSome = true := by kernel_rfl
@[simp] theorem agg239 : aggT Tryz.prog 239 = some true := by kernel_rfl
theorem info239 : Tryz.prog.info? 239 = some Tryz.t239 := by kernel_rfl
attribute [simp] Tryz.underlying239
@[simp] theorem cells240 : Tryz.prog.cellsOf 240 = 1 := by kernel_rfl
@[simp] theorem infoS240 : (Tryz.prog.info? 240).isSome = true := by kernel_rfl
@[simp] theorem agg240 : aggT Tryz.prog 240 = some false := by kernel_rfl
theorem info240 : Tryz.prog.info? 240 = some Tryz.t240 := by kernel_rfl
attribute [simp] Tryz.underlying240
@[simp] theorem cells241 : Tryz.prog.cellsOf 241 = 1 := by kernel_rfl
@[simp] theorem infoS241 : (Tryz.prog.info? 241).isSome = true := by kernel_rfl
@[simp] theorem agg241 : aggT Tryz.prog 241 = some false := by kernel_rfl
theorem info241 : Tryz.prog.info? 241 = some Tryz.t241 := by kernel_rfl
attribute [simp] Tryz.underlying241
@[simp] theorem cells242 : Tryz.prog.cellsOf 242 = 1 := by kernel_rfl
@[simp] theorem infoS242 : (Tryz.prog.info? 242).isSome = true := by kernel_rfl
@[simp] theorem agg242 : aggT Tryz.prog 242 = some false := by kernel_rfl
theorem info242 : Tryz.prog.info? 242 = some Tryz.t242 := by kernel_rfl
attribute [simp] Tryz.underlying242
@[simp] theorem cells243 : Tryz.prog.cellsOf 243 = 1 := by kernel_rfl
@[simp] theorem infoS243 : (Tryz.prog.info? 243).isSome = true := by kernel_rfl
@[simp] theorem agg243 : aggT Tryz.prog 243 = some false := by kernel_rfl
theorem info243 : Tryz.prog.info? 243 = some Tryz.t243 := by kernel_rfl
attribute [simp] Tryz.underlying243
@[simp] theorem cells244 : Tryz.prog.cellsOf 244 = 1 := by kernel_rfl
@[simp] theorem infoS244 : (Tryz.prog.info? 244).isSome = true := by kernel_rfl
@[simp] theorem agg244 : aggT Tryz.prog 244 = some false := by kernel_rfl
theorem info244 : Tryz.prog.info? 244 = some Tryz.t244 := by kernel_rfl
attribute [simp] Tryz.underlying244
@[simp] theorem cells245 : Tryz.prog.cellsOf 245 = 1 := by kernel_rfl
@[simp] theorem infoS245 : (Tryz.prog.info? 245).isSome = true := by kernel_rfl
@[simp] theorem agg245 : aggT Tryz.prog 245 = some false := by kernel_rfl
theorem info245 : Tryz.prog.info? 245 = some Tryz.t245 := by kernel_rfl
attribute [simp] Tryz.underlying245
@[simp] theorem cells246 : Tryz.prog.cellsOf 246 = 1 := by kernel_rfl
@[simp] theorem infoS246 : (Tryz.prog.info? 246).isSome = true := by kernel_rfl
@[simp] theorem agg246 : aggT Tryz.prog 246 = some false := by kernel_rfl
theorem info246 : Tryz.prog.info? 246 = some Tryz.t246 := by kernel_rfl
attribute [simp] Tryz.underlying246
@[simp] theorem cells247 : Tryz.prog.cellsOf 247 = 4 := by kernel_rfl
@[simp] theorem infoS247 : (Tryz.prog.info? 247).isSome = true := by kernel_rfl
@[simp] theorem agg247 : aggT Tryz.prog 247 = some true := by kernel_rfl
theorem info247 : Tryz.prog.info? 247 = some Tryz.t247 := by kernel_rfl
attribute [simp] Tryz.underlying247
@[simp] theorem cells248 : Tryz.prog.cellsOf 248 = 1 := by kernel_rfl
@[simp] theorem infoS248 : (Tryz.prog.info? 248).isSome = true := by kernel_rfl
@[simp] theorem agg248 : aggT Tryz.prog 248 = some false := by kernel_rfl
theorem info248 : Tryz.prog.info? 248 = some Tryz.t248 := by kernel_rfl
attribute [simp] Tryz.underlying248
@[simp] theorem cells249 : Tryz.prog.cellsOf 249 = 1 := by kernel_rfl
@[simp] theorem infoS249 : (Tryz.prog.info? 249).isSome = true := by kernel_rfl
@[simp] theorem agg249 : aggT Tryz.prog 249 = some false := by kernel_rfl
theorem info249 : Tryz.prog.info? 249 = some Tryz.t249 := by kernel_rfl
attribute [simp] Tryz.underlying249
@[simp] theorem cells250 : Tryz.prog.cellsOf 250 = 1 := by kernel_rfl
@[simp] theorem infoS250 : (Tryz.prog.info? 250).isSome = true := by kernel_rfl
@[simp] theorem agg250 : aggT Tryz.prog 250 = some false := by kernel_rfl
theorem info250 : Tryz.prog.info? 250 = some Tryz.t250 := by kernel_rfl
attribute [simp] Tryz.underlying250
@[simp] theorem cells251 : Tryz.prog.cellsOf 251 = 1 := by kernel_rfl
@[simp] theorem infoS251 : (Tryz.prog.info? 251).isSome = true := by kernel_rfl
@[simp] theorem agg251 : aggT Tryz.prog 251 = some false := by kernel_rfl
theorem info251 : Tryz.prog.info? 251 = some Tryz.t251 := by kernel_rfl
attribute [simp] Tryz.underlying251
@[simp] theorem cells252 : Tryz.prog.cellsOf 252 = 1 := by kernel_rfl
@[simp] theorem infoS252 : (Tryz.prog.info? 252).isSome = true := by kernel_rfl
@[simp] theorem agg252 : aggT Tryz.prog 252 = some false := by kernel_rfl
theorem info252 : Tryz.prog.info? 252 = some Tryz.t252 := by kernel_rfl
attribute [simp] Tryz.underlying252
@[simp] theorem cells253 : Tryz.prog.cellsOf 253 = 1 := by kernel_rfl
@[simp] theorem infoS253 : (Tryz.prog.info? 253).isSome = true := by kernel_rfl
@[simp] theorem agg253 : aggT Tryz.prog 253 = some false := by kernel_rfl
theorem info253 : Tryz.prog.info? 253 = some Tryz.t253 := by kernel_rfl
attribute [simp] Tryz.underlying253
@[simp] theorem cells254 : Tryz.prog.cellsOf 254 = 1 := by kernel_rfl
@[simp] theorem infoS254 : (Tryz.prog.info? 254).isSome = true := by kernel_rfl
@[simp] theorem agg254 : aggT Tryz.prog 254 = some false := by kernel_rfl
theorem info254 : Tryz.prog.info? 254 = some Tryz.t254 := by kernel_rfl
attribute [simp] Tryz.underlying254
@[simp] theorem cells255 : Tryz.prog.cellsOf 255 = 1 := by kernel_rfl
@[simp] theorem infoS255 : (Tryz.prog.info? 255).isSome = true := by kernel_rfl
@[simp] theorem agg255 : aggT Tryz.prog 255 = some false := by kernel_rfl
theorem info255 : Tryz.prog.info? 255 = some Tryz.t255 := by kernel_rfl
attribute [simp] Tryz.underlying255
@[simp] theorem cells256 : Tryz.prog.cellsOf 256 = 1 := by kernel_rfl
@[simp] theorem infoS256 : (Tryz.prog.info? 256).isSome = true := by kernel_rfl
@[simp] theorem agg256 : aggT Tryz.prog 256 = some false := by kernel_rfl
theorem info256 : Tryz.prog.info? 256 = some Tryz.t256 := by kernel_rfl
attribute [simp] Tryz.underlying256
@[simp] theorem cells257 : Tryz.prog.cellsOf 257 = 1 := by kernel_rfl
@[simp] theorem infoS257 : (Tryz.prog.info? 257).isSome = true := by kernel_rfl
@[simp] theorem agg257 : aggT Tryz.prog 257 = some false := by kernel_rfl
theorem info257 : Tryz.prog.info? 257 = some Tryz.t257 := by kernel_rfl
attribute [simp] Tryz.underlying257
@[simp] theorem cells258 : Tryz.prog.cellsOf 258 = 1 := by kernel_rfl
@[simp] theorem infoS258 : (Tryz.prog.info? 258).isSome = true := by kernel_rfl
@[simp] theorem agg258 : aggT Tryz.prog 258 = some false := by kernel_rfl
theorem info258 : Tryz.prog.info? 258 = some Tryz.t258 := by kernel_rfl
attribute [simp] Tryz.underlying258
@[simp] theorem cells259 : Tryz.prog.cellsOf 259 = 4 := by kernel_rfl
@[simp] theorem infoS259 : (Tryz.prog.info? 259).isSome = true := by kernel_rfl
@[simp] theorem agg259 : aggT Tryz.prog 259 = some true := by kernel_rfl
theorem info259 : Tryz.prog.info? 259 = some Tryz.t259 := by kernel_rfl
attribute [simp] Tryz.underlying259
@[simp] theorem cells260 : Tryz.prog.cellsOf 260 = 4 := by kernel_rfl
@[simp] theorem infoS260 : (Tryz.prog.info? 260).isSome = true := by kernel_rfl
@[simp] theorem agg260 : aggT Tryz.prog 260 = some true := by kernel_rfl
theorem info260 : Tryz.prog.info? 260 = some Tryz.t260 := by kernel_rfl
attribute [simp] Tryz.underlying260
@[simp] theorem cells261 : Tryz.prog.cellsOf 261 = 0 := by kernel_rfl
@[simp] theorem infoS261 : (Tryz.prog.info? 261).isSome = true := by kernel_rfl
@[simp] theorem agg261 : aggT Tryz.prog 261 = some true := by kernel_rfl
theorem info261 : Tryz.prog.info? 261 = some Tryz.t261 := by kernel_rfl
attribute [simp] Tryz.underlying261
@[simp] theorem cells262 : Tryz.prog.cellsOf 262 = 0 := by kernel_rfl
@[simp] theorem infoS262 : (Tryz.prog.info? 262).isSome = true := by kernel_rfl
@[simp] theorem agg262 : aggT Tryz.prog 262 = some true := by kernel_rfl
theorem info262 : Tryz.prog.info? 262 = some Tryz.t262 := by kernel_rfl
attribute [simp] Tryz.underlying262
@[simp] theorem cells263 : Tryz.prog.cellsOf 263 = 0 := by kernel_rfl
@[simp] theorem infoS263 : (Tryz.prog.info? 263).isSome = true := by kernel_rfl
@[simp] theorem agg263 : aggT Tryz.prog 263 = some true := by kernel_rfl
theorem info263 : Tryz.prog.info? 263 = some Tryz.t263 := by kernel_rfl
attribute [simp] Tryz.underlying263
@[simp] theorem cells264 : Tryz.prog.cellsOf 264 = 1 := by kernel_rfl
@[simp] theorem infoS264 : (Tryz.prog.info? 264).isSome = true := by kernel_rfl
@[simp] theorem agg264 : aggT Tryz.prog 264 = some false := by kernel_rfl
theorem info264 : Tryz.prog.info? 264 = some Tryz.t264 := by kernel_rfl
attribute [simp] Tryz.underlying264
@[simp] theorem cells265 : Tryz.prog.cellsOf 265 = 1 := by kernel_rfl
@[simp] theorem infoS265 : (Tryz.prog.info? 265).isSome = true := by kernel_rfl
@[simp] theorem agg265 : aggT Tryz.prog 265 = some false := by kernel_rfl
theorem info265 : Tryz.prog.info? 265 = some Tryz.t265 := by kernel_rfl
attribute [simp] Tryz.underlying265
@[simp] theorem cells266 : Tryz.prog.cellsOf 266 = 1 := by kernel_rfl
@[simp] theorem infoS266 : (Tryz.prog.info? 266).isSome = true := by kernel_rfl
@[simp] theorem agg266 : aggT Tryz.prog 266 = some false := by kernel_rfl
theorem info266 : Tryz.prog.info? 266 = some Tryz.t266 := by kernel_rfl
attribute [simp] Tryz.underlying266
@[simp] theorem cells267 : Tryz.prog.cellsOf 267 = 1 := by kernel_rfl
@[simp] theorem infoS267 : (Tryz.prog.info? 267).isSome = true := by kernel_rfl
@[simp] theorem agg267 : aggT Tryz.prog 267 = some false := by kernel_rfl
theorem info267 : Tryz.prog.info? 267 = some Tryz.t267 := by kernel_rfl
attribute [simp] Tryz.underlying267
@[simp] theorem cells268 : Tryz.prog.cellsOf 268 = 1 := by kernel_rfl
@[simp] theorem infoS268 : (Tryz.prog.info? 268).isSome = true := by kernel_rfl
@[simp] theorem agg268 : aggT Tryz.prog 268 = some false := by kernel_rfl
theorem info268 : Tryz.prog.info? 268 = some Tryz.t268 := by kernel_rfl
attribute [simp] Tryz.underlying268
@[simp] theorem cells269 : Tryz.prog.cellsOf 269 = 1 := by kernel_rfl
@[simp] theorem infoS269 : (Tryz.prog.info? 269).isSome = true := by kernel_rfl
@[simp] theorem agg269 : aggT Tryz.prog 269 = some false := by kernel_rfl
theorem info269 : Tryz.prog.info? 269 = some Tryz.t269 := by kernel_rfl
attribute [simp] Tryz.underlying269
@[simp] theorem cells270 : Tryz.prog.cellsOf 270 = 11 := by kernel_rfl
@[simp] theorem infoS270 : (Tryz.prog.info? 270).isSome = true := by kernel_rfl
@[simp] theorem agg270 : aggT Tryz.prog 270 = some true := by kernel_rfl
theorem info270 : Tryz.prog.info? 270 = some Tryz.t270 := by kernel_rfl
attribute [simp] Tryz.underlying270
@[simp] theorem cells271 : Tryz.prog.cellsOf 271 = 11 := by kernel_rfl
@[simp] theorem infoS271 : (Tryz.prog.info? 271).isSome = true := by kernel_rfl
@[simp] theorem agg271 : aggT Tryz.prog 271 = some true := by kernel_rfl
theorem info271 : Tryz.prog.info? 271 = some Tryz.t271 := by kernel_rfl
attribute [simp] Tryz.underlying271
@[simp] theorem cells272 : Tryz.prog.cellsOf 272 = 1 := by kernel_rfl
@[simp] theorem infoS272 : (Tryz.prog.info? 272).isSome = true := by kernel_rfl
@[simp] theorem agg272 : aggT Tryz.prog 272 = some false := by kernel_rfl
theorem info272 : Tryz.prog.info? 272 = some Tryz.t272 := by kernel_rfl
attribute [simp] Tryz.underlying272
end Go.Am
