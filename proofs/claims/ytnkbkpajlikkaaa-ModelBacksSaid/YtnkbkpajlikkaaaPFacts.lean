/-
  FACTS of the program's types, by a program: sizes, kinds.
-/
import Derived.Test.YtnkbkpajlikkaaaAmD
import Derived.Test.YtnkbkpajlikkaaaRows
set_option linter.unusedVariables false
set_option linter.unusedSimpArgs false
namespace Go.Am
open Go.Proofs
@[simp] theorem cells0 : Try.prog.cellsOf 0 = 1 := by kernel_rfl
@[simp] theorem infoS0 : (Try.prog.info? 0).isSome = true := by kernel_rfl
@[simp] theorem agg0 : aggT Try.prog 0 = some false := by kernel_rfl
theorem info0 : Try.prog.info? 0 = some Try.t0 := by kernel_rfl
attribute [simp] Try.underlying0
@[simp] theorem cells1 : Try.prog.cellsOf 1 = 1 := by kernel_rfl
@[simp] theorem infoS1 : (Try.prog.info? 1).isSome = true := by kernel_rfl
@[simp] theorem agg1 : aggT Try.prog 1 = some false := by kernel_rfl
theorem info1 : Try.prog.info? 1 = some Try.t1 := by kernel_rfl
attribute [simp] Try.underlying1
@[simp] theorem cells2 : Try.prog.cellsOf 2 = 1 := by kernel_rfl
@[simp] theorem infoS2 : (Try.prog.info? 2).isSome = true := by kernel_rfl
@[simp] theorem agg2 : aggT Try.prog 2 = some false := by kernel_rfl
theorem info2 : Try.prog.info? 2 = some Try.t2 := by kernel_rfl
attribute [simp] Try.underlying2
@[simp] theorem cells3 : Try.prog.cellsOf 3 = 1 := by kernel_rfl
@[simp] theorem infoS3 : (Try.prog.info? 3).isSome = true := by kernel_rfl
@[simp] theorem agg3 : aggT Try.prog 3 = some false := by kernel_rfl
theorem info3 : Try.prog.info? 3 = some Try.t3 := by kernel_rfl
attribute [simp] Try.underlying3
@[simp] theorem cells4 : Try.prog.cellsOf 4 = 1 := by kernel_rfl
@[simp] theorem infoS4 : (Try.prog.info? 4).isSome = true := by kernel_rfl
@[simp] theorem agg4 : aggT Try.prog 4 = some false := by kernel_rfl
theorem info4 : Try.prog.info? 4 = some Try.t4 := by kernel_rfl
attribute [simp] Try.underlying4
@[simp] theorem cells5 : Try.prog.cellsOf 5 = 1 := by kernel_rfl
@[simp] theorem infoS5 : (Try.prog.info? 5).isSome = true := by kernel_rfl
@[simp] theorem agg5 : aggT Try.prog 5 = some false := by kernel_rfl
theorem info5 : Try.prog.info? 5 = some Try.t5 := by kernel_rfl
attribute [simp] Try.underlying5
@[simp] theorem cells6 : Try.prog.cellsOf 6 = 1 := by kernel_rfl
@[simp] theorem infoS6 : (Try.prog.info? 6).isSome = true := by kernel_rfl
@[simp] theorem agg6 : aggT Try.prog 6 = some false := by kernel_rfl
theorem info6 : Try.prog.info? 6 = some Try.t6 := by kernel_rfl
attribute [simp] Try.underlying6
@[simp] theorem cells7 : Try.prog.cellsOf 7 = 4 := by kernel_rfl
@[simp] theorem infoS7 : (Try.prog.info? 7).isSome = true := by kernel_rfl
@[simp] theorem agg7 : aggT Try.prog 7 = some true := by kernel_rfl
theorem info7 : Try.prog.info? 7 = some Try.t7 := by kernel_rfl
attribute [simp] Try.underlying7
@[simp] theorem cells8 : Try.prog.cellsOf 8 = 4 := by kernel_rfl
@[simp] theorem infoS8 : (Try.prog.info? 8).isSome = true := by kernel_rfl
@[simp] theorem agg8 : aggT Try.prog 8 = some true := by kernel_rfl
theorem info8 : Try.prog.info? 8 = some Try.t8 := by kernel_rfl
attribute [simp] Try.underlying8
@[simp] theorem cells9 : Try.prog.cellsOf 9 = 1 := by kernel_rfl
@[simp] theorem infoS9 : (Try.prog.info? 9).isSome = true := by kernel_rfl
@[simp] theorem agg9 : aggT Try.prog 9 = some false := by kernel_rfl
theorem info9 : Try.prog.info? 9 = some Try.t9 := by kernel_rfl
attribute [simp] Try.underlying9
@[simp] theorem cells10 : Try.prog.cellsOf 10 = 1 := by kernel_rfl
@[simp] theorem infoS10 : (Try.prog.info? 10).isSome = true := by kernel_rfl
@[simp] theorem agg10 : aggT Try.prog 10 = some false := by kernel_rfl
theorem info10 : Try.prog.info? 10 = some Try.t10 := by kernel_rfl
attribute [simp] Try.underlying10
@[simp] theorem cells11 : Try.prog.cellsOf 11 = 1 := by kernel_rfl
@[simp] theorem infoS11 : (Try.prog.info? 11).isSome = true := by kernel_rfl
@[simp] theorem agg11 : aggT Try.prog 11 = some false := by kernel_rfl
theorem info11 : Try.prog.info? 11 = some Try.t11 := by kernel_rfl
attribute [simp] Try.underlying11
@[simp] theorem cells12 : Try.prog.cellsOf 12 = 1 := by kernel_rfl
@[simp] theorem infoS12 : (Try.prog.info? 12).isSome = true := by kernel_rfl
@[simp] theorem agg12 : aggT Try.prog 12 = some false := by kernel_rfl
theorem info12 : Try.prog.info? 12 = some Try.t12 := by kernel_rfl
attribute [simp] Try.underlying12
@[simp] theorem cells13 : Try.prog.cellsOf 13 = 2 := by kernel_rfl
@[simp] theorem infoS13 : (Try.prog.info? 13).isSome = true := by kernel_rfl
@[simp] theorem agg13 : aggT Try.prog 13 = some true := by kernel_rfl
theorem info13 : Try.prog.info? 13 = some Try.t13 := by kernel_rfl
attribute [simp] Try.underlying13
@[simp] theorem cells14 : Try.prog.cellsOf 14 = 2 := by kernel_rfl
@[simp] theorem infoS14 : (Try.prog.info? 14).isSome = true := by kernel_rfl
@[simp] theorem agg14 : aggT Try.prog 14 = some true := by kernel_rfl
theorem info14 : Try.prog.info? 14 = some Try.t14 := by kernel_rfl
attribute [simp] Try.underlying14
@[simp] theorem cells15 : Try.prog.cellsOf 15 = 1 := by kernel_rfl
@[simp] theorem infoS15 : (Try.prog.info? 15).isSome = true := by kernel_rfl
@[simp] theorem agg15 : aggT Try.prog 15 = some false := by kernel_rfl
theorem info15 : Try.prog.info? 15 = some Try.t15 := by kernel_rfl
attribute [simp] Try.underlying15
@[simp] theorem cells16 : Try.prog.cellsOf 16 = 1 := by kernel_rfl
@[simp] theorem infoS16 : (Try.prog.info? 16).isSome = true := by kernel_rfl
@[simp] theorem agg16 : aggT Try.prog 16 = some false := by kernel_rfl
theorem info16 : Try.prog.info? 16 = some Try.t16 := by kernel_rfl
attribute [simp] Try.underlying16
@[simp] theorem cells17 : Try.prog.cellsOf 17 = 1 := by kernel_rfl
@[simp] theorem infoS17 : (Try.prog.info? 17).isSome = true := by kernel_rfl
@[simp] theorem agg17 : aggT Try.prog 17 = some false := by kernel_rfl
theorem info17 : Try.prog.info? 17 = some Try.t17 := by kernel_rfl
attribute [simp] Try.underlying17
@[simp] theorem cells18 : Try.prog.cellsOf 18 = 1 := by kernel_rfl
@[simp] theorem infoS18 : (Try.prog.info? 18).isSome = true := by kernel_rfl
@[simp] theorem agg18 : aggT Try.prog 18 = some true := by kernel_rfl
theorem info18 : Try.prog.info? 18 = some Try.t18 := by kernel_rfl
attribute [simp] Try.underlying18
@[simp] theorem cells19 : Try.prog.cellsOf 19 = 1 := by kernel_rfl
@[simp] theorem infoS19 : (Try.prog.info? 19).isSome = true := by kernel_rfl
@[simp] theorem agg19 : aggT Try.prog 19 = some true := by kernel_rfl
theorem info19 : Try.prog.info? 19 = some Try.t19 := by kernel_rfl
attribute [simp] Try.underlying19
@[simp] theorem cells20 : Try.prog.cellsOf 20 = 1 := by kernel_rfl
@[simp] theorem infoS20 : (Try.prog.info? 20).isSome = true := by kernel_rfl
@[simp] theorem agg20 : aggT Try.prog 20 = some false := by kernel_rfl
theorem info20 : Try.prog.info? 20 = some Try.t20 := by kernel_rfl
attribute [simp] Try.underlying20
@[simp] theorem cells21 : Try.prog.cellsOf 21 = 1 := by kernel_rfl
@[simp] theorem infoS21 : (Try.prog.info? 21).isSome = true := by kernel_rfl
@[simp] theorem agg21 : aggT Try.prog 21 = some false := by kernel_rfl
theorem info21 : Try.prog.info? 21 = some Try.t21 := by kernel_rfl
attribute [simp] Try.underlying21
@[simp] theorem cells22 : Try.prog.cellsOf 22 = 1 := by kernel_rfl
@[simp] theorem infoS22 : (Try.prog.info? 22).isSome = true := by kernel_rfl
@[simp] theorem agg22 : aggT Try.prog 22 = some false := by kernel_rfl
theorem info22 : Try.prog.info? 22 = some Try.t22 := by kernel_rfl
attribute [simp] Try.underlying22
@[simp] theorem cells23 : Try.prog.cellsOf 23 = 1 := by kernel_rfl
@[simp] theorem infoS23 : (Try.prog.info? 23).isSome = true := by kernel_rfl
@[simp] theorem agg23 : aggT Try.prog 23 = some false := by kernel_rfl
theorem info23 : Try.prog.info? 23 = some Try.t23 := by kernel_rfl
attribute [simp] Try.underlying23
@[simp] theorem cells24 : Try.prog.cellsOf 24 = 1 := by kernel_rfl
@[simp] theorem infoS24 : (Try.prog.info? 24).isSome = true := by kernel_rfl
@[simp] theorem agg24 : aggT Try.prog 24 = some false := by kernel_rfl
theorem info24 : Try.prog.info? 24 = some Try.t24 := by kernel_rfl
attribute [simp] Try.underlying24
@[simp] theorem cells25 : Try.prog.cellsOf 25 = 1 := by kernel_rfl
@[simp] theorem infoS25 : (Try.prog.info? 25).isSome = true := by kernel_rfl
@[simp] theorem agg25 : aggT Try.prog 25 = some false := by kernel_rfl
theorem info25 : Try.prog.info? 25 = some Try.t25 := by kernel_rfl
attribute [simp] Try.underlying25
@[simp] theorem cells26 : Try.prog.cellsOf 26 = 1 := by kernel_rfl
@[simp] theorem infoS26 : (Try.prog.info? 26).isSome = true := by kernel_rfl
@[simp] theorem agg26 : aggT Try.prog 26 = some false := by kernel_rfl
theorem info26 : Try.prog.info? 26 = some Try.t26 := by kernel_rfl
attribute [simp] Try.underlying26
@[simp] theorem cells27 : Try.prog.cellsOf 27 = 1 := by kernel_rfl
@[simp] theorem infoS27 : (Try.prog.info? 27).isSome = true := by kernel_rfl
@[simp] theorem agg27 : aggT Try.prog 27 = some false := by kernel_rfl
theorem info27 : Try.prog.info? 27 = some Try.t27 := by kernel_rfl
attribute [simp] Try.underlying27
@[simp] theorem cells28 : Try.prog.cellsOf 28 = 1 := by kernel_rfl
@[simp] theorem infoS28 : (Try.prog.info? 28).isSome = true := by kernel_rfl
@[simp] theorem agg28 : aggT Try.prog 28 = some false := by kernel_rfl
theorem info28 : Try.prog.info? 28 = some Try.t28 := by kernel_rfl
attribute [simp] Try.underlying28
@[simp] theorem cells29 : Try.prog.cellsOf 29 = 1 := by kernel_rfl
@[simp] theorem infoS29 : (Try.prog.info? 29).isSome = true := by kernel_rfl
@[simp] theorem agg29 : aggT Try.prog 29 = some false := by kernel_rfl
theorem info29 : Try.prog.info? 29 = some Try.t29 := by kernel_rfl
attribute [simp] Try.underlying29
@[simp] theorem cells30 : Try.prog.cellsOf 30 = 1 := by kernel_rfl
@[simp] theorem infoS30 : (Try.prog.info? 30).isSome = true := by kernel_rfl
@[simp] theorem agg30 : aggT Try.prog 30 = some false := by kernel_rfl
theorem info30 : Try.prog.info? 30 = some Try.t30 := by kernel_rfl
attribute [simp] Try.underlying30
@[simp] theorem cells31 : Try.prog.cellsOf 31 = 6 := by kernel_rfl
@[simp] theorem infoS31 : (Try.prog.info? 31).isSome = true := by kernel_rfl
@[simp] theorem agg31 : aggT Try.prog 31 = some true := by kernel_rfl
theorem info31 : Try.prog.info? 31 = some Try.t31 := by kernel_rfl
attribute [simp] Try.underlying31
@[simp] theorem cells32 : Try.prog.cellsOf 32 = 6 := by kernel_rfl
@[simp] theorem infoS32 : (Try.prog.info? 32).isSome = true := by kernel_rfl
@[simp] theorem agg32 : aggT Try.prog 32 = some true := by kernel_rfl
theorem info32 : Try.prog.info? 32 = some Try.t32 := by kernel_rfl
attribute [simp] Try.underlying32
@[simp] theorem cells33 : Try.prog.cellsOf 33 = 128 := by kernel_rfl
@[simp] theorem infoS33 : (Try.prog.info? 33).isSome = true := by kernel_rfl
@[simp] theorem agg33 : aggT Try.prog 33 = some true := by kernel_rfl
theorem info33 : Try.prog.info? 33 = some Try.t33 := by kernel_rfl
attribute [simp] Try.underlying33
@[simp] theorem cells34 : Try.prog.cellsOf 34 = 128 := by kernel_rfl
@[simp] theorem infoS34 : (Try.prog.info? 34).isSome = true := by kernel_rfl
@[simp] theorem agg34 : aggT Try.prog 34 = some true := by kernel_rfl
theorem info34 : Try.prog.info? 34 = some Try.t34 := by kernel_rfl
attribute [simp] Try.underlying34
@[simp] theorem cells35 : Try.prog.cellsOf 35 = 1 := by kernel_rfl
@[simp] theorem infoS35 : (Try.prog.info? 35).isSome = true := by kernel_rfl
@[simp] theorem agg35 : aggT Try.prog 35 = some false := by kernel_rfl
theorem info35 : Try.prog.info? 35 = some Try.t35 := by kernel_rfl
attribute [simp] Try.underlying35
@[simp] theorem cells36 : Try.prog.cellsOf 36 = 1 := by kernel_rfl
@[simp] theorem infoS36 : (Try.prog.info? 36).isSome = true := by kernel_rfl
@[simp] theorem agg36 : aggT Try.prog 36 = some false := by kernel_rfl
theorem info36 : Try.prog.info? 36 = some Try.t36 := by kernel_rfl
attribute [simp] Try.underlying36
@[simp] theorem cells37 : Try.prog.cellsOf 37 = 1 := by kernel_rfl
@[simp] theorem infoS37 : (Try.prog.info? 37).isSome = true := by kernel_rfl
@[simp] theorem agg37 : aggT Try.prog 37 = some false := by kernel_rfl
theorem info37 : Try.prog.info? 37 = some Try.t37 := by kernel_rfl
attribute [simp] Try.underlying37
@[simp] theorem cells38 : Try.prog.cellsOf 38 = 4 := by kernel_rfl
@[simp] theorem infoS38 : (Try.prog.info? 38).isSome = true := by kernel_rfl
@[simp] theorem agg38 : aggT Try.prog 38 = some true := by kernel_rfl
theorem info38 : Try.prog.info? 38 = some Try.t38 := by kernel_rfl
attribute [simp] Try.underlying38
@[simp] theorem cells39 : Try.prog.cellsOf 39 = 4 := by kernel_rfl
@[simp] theorem infoS39 : (Try.prog.info? 39).isSome = true := by kernel_rfl
@[simp] theorem agg39 : aggT Try.prog 39 = some true := by kernel_rfl
theorem info39 : Try.prog.info? 39 = some Try.t39 := by kernel_rfl
attribute [simp] Try.underlying39
@[simp] theorem cells40 : Try.prog.cellsOf 40 = 1 := by kernel_rfl
@[simp] theorem infoS40 : (Try.prog.info? 40).isSome = true := by kernel_rfl
@[simp] theorem agg40 : aggT Try.prog 40 = some false := by kernel_rfl
theorem info40 : Try.prog.info? 40 = some Try.t40 := by kernel_rfl
attribute [simp] Try.underlying40
@[simp] theorem cells41 : Try.prog.cellsOf 41 = 1 := by kernel_rfl
@[simp] theorem infoS41 : (Try.prog.info? 41).isSome = true := by kernel_rfl
@[simp] theorem agg41 : aggT Try.prog 41 = some false := by kernel_rfl
theorem info41 : Try.prog.info? 41 = some Try.t41 := by kernel_rfl
attribute [simp] Try.underlying41
@[simp] theorem cells42 : Try.prog.cellsOf 42 = 1 := by kernel_rfl
@[simp] theorem infoS42 : (Try.prog.info? 42).isSome = true := by kernel_rfl
@[simp] theorem agg42 : aggT Try.prog 42 = some false := by kernel_rfl
theorem info42 : Try.prog.info? 42 = some Try.t42 := by kernel_rfl
attribute [simp] Try.underlying42
@[simp] theorem cells43 : Try.prog.cellsOf 43 = 1 := by kernel_rfl
@[simp] theorem infoS43 : (Try.prog.info? 43).isSome = true := by kernel_rfl
@[simp] theorem agg43 : aggT Try.prog 43 = some false := by kernel_rfl
theorem info43 : Try.prog.info? 43 = some Try.t43 := by kernel_rfl
attribute [simp] Try.underlying43
@[simp] theorem cells44 : Try.prog.cellsOf 44 = 1 := by kernel_rfl
@[simp] theorem infoS44 : (Try.prog.info? 44).isSome = true := by kernel_rfl
@[simp] theorem agg44 : aggT Try.prog 44 = some false := by kernel_rfl
theorem info44 : Try.prog.info? 44 = some Try.t44 := by kernel_rfl
attribute [simp] Try.underlying44
@[simp] theorem cells45 : Try.prog.cellsOf 45 = 1 := by kernel_rfl
@[simp] theorem infoS45 : (Try.prog.info? 45).isSome = true := by kernel_rfl
@[simp] theorem agg45 : aggT Try.prog 45 = some false := by kernel_rfl
theorem info45 : Try.prog.info? 45 = some Try.t45 := by kernel_rfl
attribute [simp] Try.underlying45
@[simp] theorem cells46 : Try.prog.cellsOf 46 = 1 := by kernel_rfl
@[simp] theorem infoS46 : (Try.prog.info? 46).isSome = true := by kernel_rfl
@[simp] theorem agg46 : aggT Try.prog 46 = some false := by kernel_rfl
theorem info46 : Try.prog.info? 46 = some Try.t46 := by kernel_rfl
attribute [simp] Try.underlying46
@[simp] theorem cells47 : Try.prog.cellsOf 47 = 1 := by kernel_rfl
@[simp] theorem infoS47 : (Try.prog.info? 47).isSome = true := by kernel_rfl
@[simp] theorem agg47 : aggT Try.prog 47 = some false := by kernel_rfl
theorem info47 : Try.prog.info? 47 = some Try.t47 := by kernel_rfl
attribute [simp] Try.underlying47
@[simp] theorem cells48 : Try.prog.cellsOf 48 = 2 := by kernel_rfl
@[simp] theorem infoS48 : (Try.prog.info? 48).isSome = true := by kernel_rfl
@[simp] theorem agg48 : aggT Try.prog 48 = some true := by kernel_rfl
theorem info48 : Try.prog.info? 48 = some Try.t48 := by kernel_rfl
attribute [simp] Try.underlying48
@[simp] theorem cells49 : Try.prog.cellsOf 49 = 2 := by kernel_rfl
@[simp] theorem infoS49 : (Try.prog.info? 49).isSome = true := by kernel_rfl
@[simp] theorem agg49 : aggT Try.prog 49 = some true := by kernel_rfl
theorem info49 : Try.prog.info? 49 = some Try.t49 := by kernel_rfl
attribute [simp] Try.underlying49
@[simp] theorem cells50 : Try.prog.cellsOf 50 = 1 := by kernel_rfl
@[simp] theorem infoS50 : (Try.prog.info? 50).isSome = true := by kernel_rfl
@[simp] theorem agg50 : aggT Try.prog 50 = some false := by kernel_rfl
theorem info50 : Try.prog.info? 50 = some Try.t50 := by kernel_rfl
attribute [simp] Try.underlying50
@[simp] theorem cells51 : Try.prog.cellsOf 51 = 5 := by kernel_rfl
@[simp] theorem infoS51 : (Try.prog.info? 51).isSome = true := by kernel_rfl
@[simp] theorem agg51 : aggT Try.prog 51 = some true := by kernel_rfl
theorem info51 : Try.prog.info? 51 = some Try.t51 := by kernel_rfl
attribute [simp] Try.underlying51
@[simp] theorem cells52 : Try.prog.cellsOf 52 = 5 := by kernel_rfl
@[simp] theorem infoS52 : (Try.prog.info? 52).isSome = true := by kernel_rfl
@[simp] theorem agg52 : aggT Try.prog 52 = some true := by kernel_rfl
theorem info52 : Try.prog.info? 52 = some Try.t52 := by kernel_rfl
attribute [simp] Try.underlying52
@[simp] theorem cells53 : Try.prog.cellsOf 53 = 1 := by kernel_rfl
@[simp] theorem infoS53 : (Try.prog.info? 53).isSome = true := by kernel_rfl
@[simp] theorem agg53 : aggT Try.prog 53 = some false := by kernel_rfl
theorem info53 : Try.prog.info? 53 = some Try.t53 := by kernel_rfl
attribute [simp] Try.underlying53
@[simp] theorem cells54 : Try.prog.cellsOf 54 = 1 := by kernel_rfl
@[simp] theorem infoS54 : (Try.prog.info? 54).isSome = true := by kernel_rfl
@[simp] theorem agg54 : aggT Try.prog 54 = some false := by kernel_rfl
theorem info54 : Try.prog.info? 54 = some Try.t54 := by kernel_rfl
attribute [simp] Try.underlying54
@[simp] theorem cells55 : Try.prog.cellsOf 55 = 3 := by kernel_rfl
@[simp] theorem infoS55 : (Try.prog.info? 55).isSome = true := by kernel_rfl
@[simp] theorem agg55 : aggT Try.prog 55 = some true := by kernel_rfl
theorem info55 : Try.prog.info? 55 = some Try.t55 := by kernel_rfl
attribute [simp] Try.underlying55
@[simp] theorem cells56 : Try.prog.cellsOf 56 = 3 := by kernel_rfl
@[simp] theorem infoS56 : (Try.prog.info? 56).isSome = true := by kernel_rfl
@[simp] theorem agg56 : aggT Try.prog 56 = some true := by kernel_rfl
theorem info56 : Try.prog.info? 56 = some Try.t56 := by kernel_rfl
attribute [simp] Try.underlying56
@[simp] theorem cells57 : Try.prog.cellsOf 57 = 1 := by kernel_rfl
@[simp] theorem infoS57 : (Try.prog.info? 57).isSome = true := by kernel_rfl
@[simp] theorem agg57 : aggT Try.prog 57 = some false := by kernel_rfl
theorem info57 : Try.prog.info? 57 = some Try.t57 := by kernel_rfl
attribute [simp] Try.underlying57
@[simp] theorem cells58 : Try.prog.cellsOf 58 = 11 := by kernel_rfl
@[simp] theorem infoS58 : (Try.prog.info? 58).isSome = true := by kernel_rfl
@[simp] theorem agg58 : aggT Try.prog 58 = some true := by kernel_rfl
theorem info58 : Try.prog.info? 58 = some Try.t58 := by kernel_rfl
attribute [simp] Try.underlying58
@[simp] theorem cells59 : Try.prog.cellsOf 59 = 11 := by kernel_rfl
@[simp] theorem infoS59 : (Try.prog.info? 59).isSome = true := by kernel_rfl
@[simp] theorem agg59 : aggT Try.prog 59 = some true := by kernel_rfl
theorem info59 : Try.prog.info? 59 = some Try.t59 := by kernel_rfl
attribute [simp] Try.underlying59
@[simp] theorem cells60 : Try.prog.cellsOf 60 = 1 := by kernel_rfl
@[simp] theorem infoS60 : (Try.prog.info? 60).isSome = true := by kernel_rfl
@[simp] theorem agg60 : aggT Try.prog 60 = some false := by kernel_rfl
theorem info60 : Try.prog.info? 60 = some Try.t60 := by kernel_rfl
attribute [simp] Try.underlying60
@[simp] theorem cells61 : Try.prog.cellsOf 61 = 1 := by kernel_rfl
@[simp] theorem infoS61 : (Try.prog.info? 61).isSome = true := by kernel_rfl
@[simp] theorem agg61 : aggT Try.prog 61 = some false := by kernel_rfl
theorem info61 : Try.prog.info? 61 = some Try.t61 := by kernel_rfl
attribute [simp] Try.underlying61
@[simp] theorem cells62 : Try.prog.cellsOf 62 = 1 := by kernel_rfl
@[simp] theorem infoS62 : (Try.prog.info? 62).isSome = true := by kernel_rfl
@[simp] theorem agg62 : aggT Try.prog 62 = some false := by kernel_rfl
theorem info62 : Try.prog.info? 62 = some Try.t62 := by kernel_rfl
attribute [simp] Try.underlying62
@[simp] theorem cells63 : Try.prog.cellsOf 63 = 129 := by kernel_rfl
@[simp] theorem infoS63 : (Try.prog.info? 63).isSome = true := by kernel_rfl
@[simp] theorem agg63 : aggT Try.prog 63 = some true := by kernel_rfl
theorem info63 : Try.prog.info? 63 = some Try.t63 := by kernel_rfl
attribute [simp] Try.underlying63
@[simp] theorem cells64 : Try.prog.cellsOf 64 = 129 := by kernel_rfl
@[simp] theorem infoS64 : (Try.prog.info? 64).isSome = true := by kernel_rfl
@[simp] theorem agg64 : aggT Try.prog 64 = some true := by kernel_rfl
theorem info64 : Try.prog.info? 64 = some Try.t64 := by kernel_rfl
attribute [simp] Try.underlying64
@[simp] theorem cells65 : Try.prog.cellsOf 65 = 8256 := by kernel_rfl
@[simp] theorem infoS65 : (Try.prog.info? 65).isSome = true := by kernel_rfl
@[simp] theorem agg65 : aggT Try.prog 65 = some true := by kernel_rfl
theorem info65 : Try.prog.info? 65 = some Try.t65 := by kernel_rfl
attribute [simp] Try.underlying65
@[simp] theorem cells66 : Try.prog.cellsOf 66 = 0 := by kernel_rfl
@[simp] theorem infoS66 : (Try.prog.info? 66).isSome = true := by kernel_rfl
@[simp] theorem agg66 : aggT Try.prog 66 = some true := by kernel_rfl
theorem info66 : Try.prog.info? 66 = some Try.t66 := by kernel_rfl
attribute [simp] Try.underlying66
@[simp] theorem cells67 : Try.prog.cellsOf 67 = 1 := by kernel_rfl
@[simp] theorem infoS67 : (Try.prog.info? 67).isSome = true := by kernel_rfl
@[simp] theorem agg67 : aggT Try.prog 67 = some false := by kernel_rfl
theorem info67 : Try.prog.info? 67 = some Try.t67 := by kernel_rfl
attribute [simp] Try.underlying67
@[simp] theorem cells68 : Try.prog.cellsOf 68 = 1 := by kernel_rfl
@[simp] theorem infoS68 : (Try.prog.info? 68).isSome = true := by kernel_rfl
@[simp] theorem agg68 : aggT Try.prog 68 = some false := by kernel_rfl
theorem info68 : Try.prog.info? 68 = some Try.t68 := by kernel_rfl
attribute [simp] Try.underlying68
@[simp] theorem cells69 : Try.prog.cellsOf 69 = 1 := by kernel_rfl
@[simp] theorem infoS69 : (Try.prog.info? 69).isSome = true := by kernel_rfl
@[simp] theorem agg69 : aggT Try.prog 69 = some false := by kernel_rfl
theorem info69 : Try.prog.info? 69 = some Try.t69 := by kernel_rfl
attribute [simp] Try.underlying69
@[simp] theorem cells70 : Try.prog.cellsOf 70 = 1 := by kernel_rfl
@[simp] theorem infoS70 : (Try.prog.info? 70).isSome = true := by kernel_rfl
@[simp] theorem agg70 : aggT Try.prog 70 = some false := by kernel_rfl
theorem info70 : Try.prog.info? 70 = some Try.t70 := by kernel_rfl
attribute [simp] Try.underlying70
@[simp] theorem cells71 : Try.prog.cellsOf 71 = 1 := by kernel_rfl
@[simp] theorem infoS71 : (Try.prog.info? 71).isSome = true := by kernel_rfl
@[simp] theorem agg71 : aggT Try.prog 71 = some false := by kernel_rfl
theorem info71 : Try.prog.info? 71 = some Try.t71 := by kernel_rfl
attribute [simp] Try.underlying71
@[simp] theorem cells72 : Try.prog.cellsOf 72 = 1 := by kernel_rfl
@[simp] theorem infoS72 : (Try.prog.info? 72).isSome = true := by kernel_rfl
@[simp] theorem agg72 : aggT Try.prog 72 = some false := by kernel_rfl
theorem info72 : Try.prog.info? 72 = some Try.t72 := by kernel_rfl
attribute [simp] Try.underlying72
@[simp] theorem cells73 : Try.prog.cellsOf 73 = 1 := by kernel_rfl
@[simp] theorem infoS73 : (Try.prog.info? 73).isSome = true := by kernel_rfl
@[simp] theorem agg73 : aggT Try.prog 73 = some false := by kernel_rfl
theorem info73 : Try.prog.info? 73 = some Try.t73 := by kernel_rfl
attribute [simp] Try.underlying73
@[simp] theorem cells74 : Try.prog.cellsOf 74 = 1 := by kernel_rfl
@[simp] theorem infoS74 : (Try.prog.info? 74).isSome = true := by kernel_rfl
@[simp] theorem agg74 : aggT Try.prog 74 = some false := by kernel_rfl
theorem info74 : Try.prog.info? 74 = some Try.t74 := by kernel_rfl
attribute [simp] Try.underlying74
@[simp] theorem cells75 : Try.prog.cellsOf 75 = 1 := by kernel_rfl
@[simp] theorem infoS75 : (Try.prog.info? 75).isSome = true := by kernel_rfl
@[simp] theorem agg75 : aggT Try.prog 75 = some false := by kernel_rfl
theorem info75 : Try.prog.info? 75 = some Try.t75 := by kernel_rfl
attribute [simp] Try.underlying75
@[simp] theorem cells76 : Try.prog.cellsOf 76 = 1 := by kernel_rfl
@[simp] theorem infoS76 : (Try.prog.info? 76).isSome = true := by kernel_rfl
@[simp] theorem agg76 : aggT Try.prog 76 = some false := by kernel_rfl
theorem info76 : Try.prog.info? 76 = some Try.t76 := by kernel_rfl
attribute [simp] Try.underlying76
@[simp] theorem cells77 : Try.prog.cellsOf 77 = 1 := by kernel_rfl
@[simp] theorem infoS77 : (Try.prog.info? 77).isSome = true := by kernel_rfl
@[simp] theorem agg77 : aggT Try.prog 77 = some false := by kernel_rfl
theorem info77 : Try.prog.info? 77 = some Try.t77 := by kernel_rfl
attribute [simp] Try.underlying77
@[simp] theorem cells78 : Try.prog.cellsOf 78 = 1 := by kernel_rfl
@[simp] theorem infoS78 : (Try.prog.info? 78).isSome = true := by kernel_rfl
@[simp] theorem agg78 : aggT Try.prog 78 = some false := by kernel_rfl
theorem info78 : Try.prog.info? 78 = some Try.t78 := by kernel_rfl
attribute [simp] Try.underlying78
@[simp] theorem cells79 : Try.prog.cellsOf 79 = 1 := by kernel_rfl
@[simp] theorem infoS79 : (Try.prog.info? 79).isSome = true := by kernel_rfl
@[simp] theorem agg79 : aggT Try.prog 79 = some false := by kernel_rfl
theorem info79 : Try.prog.info? 79 = some Try.t79 := by kernel_rfl
attribute [simp] Try.underlying79
@[simp] theorem cells80 : Try.prog.cellsOf 80 = 1 := by kernel_rfl
@[simp] theorem infoS80 : (Try.prog.info? 80).isSome = true := by kernel_rfl
@[simp] theorem agg80 : aggT Try.prog 80 = some false := by kernel_rfl
theorem info80 : Try.prog.info? 80 = some Try.t80 := by kernel_rfl
attribute [simp] Try.underlying80
@[simp] theorem cells81 : Try.prog.cellsOf 81 = 1 := by kernel_rfl
@[simp] theorem infoS81 : (Try.prog.info? 81).isSome = true := by kernel_rfl
@[simp] theorem agg81 : aggT Try.prog 81 = some false := by kernel_rfl
theorem info81 : Try.prog.info? 81 = some Try.t81 := by kernel_rfl
attribute [simp] Try.underlying81
@[simp] theorem cells82 : Try.prog.cellsOf 82 = 1 := by kernel_rfl
@[simp] theorem infoS82 : (Try.prog.info? 82).isSome = true := by kernel_rfl
@[simp] theorem agg82 : aggT Try.prog 82 = some false := by kernel_rfl
theorem info82 : Try.prog.info? 82 = some Try.t82 := by kernel_rfl
attribute [simp] Try.underlying82
@[simp] theorem cells83 : Try.prog.cellsOf 83 = 1 := by kernel_rfl
@[simp] theorem infoS83 : (Try.prog.info? 83).isSome = true := by kernel_rfl
@[simp] theorem agg83 : aggT Try.prog 83 = some false := by kernel_rfl
theorem info83 : Try.prog.info? 83 = some Try.t83 := by kernel_rfl
attribute [simp] Try.underlying83
@[simp] theorem cells84 : Try.prog.cellsOf 84 = 1 := by kernel_rfl
@[simp] theorem infoS84 : (Try.prog.info? 84).isSome = true := by kernel_rfl
@[simp] theorem agg84 : aggT Try.prog 84 = some false := by kernel_rfl
theorem info84 : Try.prog.info? 84 = some Try.t84 := by kernel_rfl
attribute [simp] Try.underlying84
@[simp] theorem cells85 : Try.prog.cellsOf 85 = 1 := by kernel_rfl
@[simp] theorem infoS85 : (Try.prog.info? 85).isSome = true := by kernel_rfl
@[simp] theorem agg85 : aggT Try.prog 85 = some false := by kernel_rfl
theorem info85 : Try.prog.info? 85 = some Try.t85 := by kernel_rfl
attribute [simp] Try.underlying85
@[simp] theorem cells86 : Try.prog.cellsOf 86 = 1 := by kernel_rfl
@[simp] theorem infoS86 : (Try.prog.info? 86).isSome = true := by kernel_rfl
@[simp] theorem agg86 : aggT Try.prog 86 = some false := by kernel_rfl
theorem info86 : Try.prog.info? 86 = some Try.t86 := by kernel_rfl
attribute [simp] Try.underlying86
@[simp] theorem cells87 : Try.prog.cellsOf 87 = 1 := by kernel_rfl
@[simp] theorem infoS87 : (Try.prog.info? 87).isSome = true := by kernel_rfl
@[simp] theorem agg87 : aggT Try.prog 87 = some false := by kernel_rfl
theorem info87 : Try.prog.info? 87 = some Try.t87 := by kernel_rfl
attribute [simp] Try.underlying87
@[simp] theorem cells88 : Try.prog.cellsOf 88 = 1 := by kernel_rfl
@[simp] theorem infoS88 : (Try.prog.info? 88).isSome = true := by kernel_rfl
@[simp] theorem agg88 : aggT Try.prog 88 = some false := by kernel_rfl
theorem info88 : Try.prog.info? 88 = some Try.t88 := by kernel_rfl
attribute [simp] Try.underlying88
@[simp] theorem cells89 : Try.prog.cellsOf 89 = 1 := by kernel_rfl
@[simp] theorem infoS89 : (Try.prog.info? 89).isSome = true := by kernel_rfl
@[simp] theorem agg89 : aggT Try.prog 89 = some false := by kernel_rfl
theorem info89 : Try.prog.info? 89 = some Try.t89 := by kernel_rfl
attribute [simp] Try.underlying89
@[simp] theorem cells90 : Try.prog.cellsOf 90 = 1 := by kernel_rfl
@[simp] theorem infoS90 : (Try.prog.info? 90).isSome = true := by kernel_rfl
@[simp] theorem agg90 : aggT Try.prog 90 = some false := by kernel_rfl
theorem info90 : Try.prog.info? 90 = some Try.t90 := by kernel_rfl
attribute [simp] Try.underlying90
@[simp] theorem cells91 : Try.prog.cellsOf 91 = 1 := by kernel_rfl
@[simp] theorem infoS91 : (Try.prog.info? 91).isSome = true := by kernel_rfl
@[simp] theorem agg91 : aggT Try.prog 91 = some false := by kernel_rfl
theorem info91 : Try.prog.info? 91 = some Try.t91 := by kernel_rfl
attribute [simp] Try.underlying91
@[simp] theorem cells92 : Try.prog.cellsOf 92 = 1 := by kernel_rfl
@[simp] theorem infoS92 : (Try.prog.info? 92).isSome = true := by kernel_rfl
@[simp] theorem agg92 : aggT Try.prog 92 = some false := by kernel_rfl
theorem info92 : Try.prog.info? 92 = some Try.t92 := by kernel_rfl
attribute [simp] Try.underlying92
@[simp] theorem cells93 : Try.prog.cellsOf 93 = 1 := by kernel_rfl
@[simp] theorem infoS93 : (Try.prog.info? 93).isSome = true := by kernel_rfl
@[simp] theorem agg93 : aggT Try.prog 93 = some false := by kernel_rfl
theorem info93 : Try.prog.info? 93 = some Try.t93 := by kernel_rfl
attribute [simp] Try.underlying93
@[simp] theorem cells94 : Try.prog.cellsOf 94 = 1 := by kernel_rfl
@[simp] theorem infoS94 : (Try.prog.info? 94).isSome = true := by kernel_rfl
@[simp] theorem agg94 : aggT Try.prog 94 = some false := by kernel_rfl
theorem info94 : Try.prog.info? 94 = some Try.t94 := by kernel_rfl
attribute [simp] Try.underlying94
@[simp] theorem cells95 : Try.prog.cellsOf 95 = 1 := by kernel_rfl
@[simp] theorem infoS95 : (Try.prog.info? 95).isSome = true := by kernel_rfl
@[simp] theorem agg95 : aggT Try.prog 95 = some false := by kernel_rfl
theorem info95 : Try.prog.info? 95 = some Try.t95 := by kernel_rfl
attribute [simp] Try.underlying95
@[simp] theorem cells96 : Try.prog.cellsOf 96 = 1 := by kernel_rfl
@[simp] theorem infoS96 : (Try.prog.info? 96).isSome = true := by kernel_rfl
@[simp] theorem agg96 : aggT Try.prog 96 = some false := by kernel_rfl
theorem info96 : Try.prog.info? 96 = some Try.t96 := by kernel_rfl
attribute [simp] Try.underlying96
@[simp] theorem cells97 : Try.prog.cellsOf 97 = 1 := by kernel_rfl
@[simp] theorem infoS97 : (Try.prog.info? 97).isSome = true := by kernel_rfl
@[simp] theorem agg97 : aggT Try.prog 97 = some false := by kernel_rfl
theorem info97 : Try.prog.info? 97 = some Try.t97 := by kernel_rfl
attribute [simp] Try.underlying97
@[simp] theorem cells98 : Try.prog.cellsOf 98 = 1 := by kernel_rfl
@[simp] theorem infoS98 : (Try.prog.info? 98).isSome = true := by kernel_rfl
@[simp] theorem agg98 : aggT Try.prog 98 = some false := by kernel_rfl
theorem info98 : Try.prog.info? 98 = some Try.t98 := by kernel_rfl
attribute [simp] Try.underlying98
@[simp] theorem cells99 : Try.prog.cellsOf 99 = 1 := by kernel_rfl
@[simp] theorem infoS99 : (Try.prog.info? 99).isSome = true := by kernel_rfl
@[simp] theorem agg99 : aggT Try.prog 99 = some false := by kernel_rfl
theorem info99 : Try.prog.info? 99 = some Try.t99 := by kernel_rfl
attribute [simp] Try.underlying99
@[simp] theorem cells100 : Try.prog.cellsOf 100 = 1 := by kernel_rfl
@[simp] theorem infoS100 : (Try.prog.info? 100).isSome = true := by kernel_rfl
@[simp] theorem agg100 : aggT Try.prog 100 = some false := by kernel_rfl
theorem info100 : Try.prog.info? 100 = some Try.t100 := by kernel_rfl
attribute [simp] Try.underlying100
@[simp] theorem cells101 : Try.prog.cellsOf 101 = 1 := by kernel_rfl
@[simp] theorem infoS101 : (Try.prog.info? 101).isSome = true := by kernel_rfl
@[simp] theorem agg101 : aggT Try.prog 101 = some false := by kernel_rfl
theorem info101 : Try.prog.info? 101 = some Try.t101 := by kernel_rfl
attribute [simp] Try.underlying101
@[simp] theorem cells102 : Try.prog.cellsOf 102 = 1 := by kernel_rfl
@[simp] theorem infoS102 : (Try.prog.info? 102).isSome = true := by kernel_rfl
@[simp] theorem agg102 : aggT Try.prog 102 = some false := by kernel_rfl
theorem info102 : Try.prog.info? 102 = some Try.t102 := by kernel_rfl
attribute [simp] Try.underlying102
@[simp] theorem cells103 : Try.prog.cellsOf 103 = 1 := by kernel_rfl
@[simp] theorem infoS103 : (Try.prog.info? 103).isSome = true := by kernel_rfl
@[simp] theorem agg103 : aggT Try.prog 103 = some false := by kernel_rfl
theorem info103 : Try.prog.info? 103 = some Try.t103 := by kernel_rfl
attribute [simp] Try.underlying103
@[simp] theorem cells104 : Try.prog.cellsOf 104 = 1 := by kernel_rfl
@[simp] theorem infoS104 : (Try.prog.info? 104).isSome = true := by kernel_rfl
@[simp] theorem agg104 : aggT Try.prog 104 = some false := by kernel_rfl
theorem info104 : Try.prog.info? 104 = some Try.t104 := by kernel_rfl
attribute [simp] Try.underlying104
@[simp] theorem cells105 : Try.prog.cellsOf 105 = 1 := by kernel_rfl
@[simp] theorem infoS105 : (Try.prog.info? 105).isSome = true := by kernel_rfl
@[simp] theorem agg105 : aggT Try.prog 105 = some false := by kernel_rfl
theorem info105 : Try.prog.info? 105 = some Try.t105 := by kernel_rfl
attribute [simp] Try.underlying105
@[simp] theorem cells106 : Try.prog.cellsOf 106 = 1 := by kernel_rfl
@[simp] theorem infoS106 : (Try.prog.info? 106).isSome = true := by kernel_rfl
@[simp] theorem agg106 : aggT Try.prog 106 = some false := by kernel_rfl
theorem info106 : Try.prog.info? 106 = some Try.t106 := by kernel_rfl
attribute [simp] Try.underlying106
@[simp] theorem cells107 : Try.prog.cellsOf 107 = 1 := by kernel_rfl
@[simp] theorem infoS107 : (Try.prog.info? 107).isSome = true := by kernel_rfl
@[simp] theorem agg107 : aggT Try.prog 107 = some false := by kernel_rfl
theorem info107 : Try.prog.info? 107 = some Try.t107 := by kernel_rfl
attribute [simp] Try.underlying107
@[simp] theorem cells108 : Try.prog.cellsOf 108 = 1 := by kernel_rfl
@[simp] theorem infoS108 : (Try.prog.info? 108).isSome = true := by kernel_rfl
@[simp] theorem agg108 : aggT Try.prog 108 = some false := by kernel_rfl
theorem info108 : Try.prog.info? 108 = some Try.t108 := by kernel_rfl
attribute [simp] Try.underlying108
@[simp] theorem cells109 : Try.prog.cellsOf 109 = 1 := by kernel_rfl
@[simp] theorem infoS109 : (Try.prog.info? 109).isSome = true := by kernel_rfl
@[simp] theorem agg109 : aggT Try.prog 109 = some false := by kernel_rfl
theorem info109 : Try.prog.info? 109 = some Try.t109 := by kernel_rfl
attribute [simp] Try.underlying109
@[simp] theorem cells110 : Try.prog.cellsOf 110 = 2 := by kernel_rfl
@[simp] theorem infoS110 : (Try.prog.info? 110).isSome = true := by kernel_rfl
@[simp] theorem agg110 : aggT Try.prog 110 = some true := by kernel_rfl
theorem info110 : Try.prog.info? 110 = some Try.t110 := by kernel_rfl
attribute [simp] Try.underlying110
@[simp] theorem cells111 : Try.prog.cellsOf 111 = 2 := by kernel_rfl
@[simp] theorem infoS111 : (Try.prog.info? 111).isSome = true := by kernel_rfl
@[simp] theorem agg111 : aggT Try.prog 111 = some true := by kernel_rfl
theorem info111 : Try.prog.info? 111 = some Try.t111 := by kernel_rfl
attribute [simp] Try.underlying111
@[simp] theorem cells112 : Try.prog.cellsOf 112 = 1 := by kernel_rfl
@[simp] theorem infoS112 : (Try.prog.info? 112).isSome = true := by kernel_rfl
@[simp] theorem agg112 : aggT Try.prog 112 = some false := by kernel_rfl
theorem info112 : Try.prog.info? 112 = some Try.t112 := by kernel_rfl
attribute [simp] Try.underlying112
@[simp] theorem cells113 : Try.prog.cellsOf 113 = 1 := by kernel_rfl
@[simp] theorem infoS113 : (Try.prog.info? 113).isSome = true := by kernel_rfl
@[simp] theorem agg113 : aggT Try.prog 113 = some false := by kernel_rfl
theorem info113 : Try.prog.info? 113 = some Try.t113 := by kernel_rfl
attribute [simp] Try.underlying113
@[simp] theorem cells114 : Try.prog.cellsOf 114 = 1 := by kernel_rfl
@[simp] theorem infoS114 : (Try.prog.info? 114).isSome = true := by kernel_rfl
@[simp] theorem agg114 : aggT Try.prog 114 = some false := by kernel_rfl
theorem info114 : Try.prog.info? 114 = some Try.t114 := by kernel_rfl
attribute [simp] Try.underlying114
@[simp] theorem cells115 : Try.prog.cellsOf 115 = 1 := by kernel_rfl
@[simp] theorem infoS115 : (Try.prog.info? 115).isSome = true := by kernel_rfl
@[simp] theorem agg115 : aggT Try.prog 115 = some false := by kernel_rfl
theorem info115 : Try.prog.info? 115 = some Try.t115 := by kernel_rfl
attribute [simp] Try.underlying115
@[simp] theorem cells116 : Try.prog.cellsOf 116 = 1 := by kernel_rfl
@[simp] theorem infoS116 : (Try.prog.info? 116).isSome = true := by kernel_rfl
@[simp] theorem agg116 : aggT Try.prog 116 = some false := by kernel_rfl
theorem info116 : Try.prog.info? 116 = some Try.t116 := by kernel_rfl
attribute [simp] Try.underlying116
@[simp] theorem cells117 : Try.prog.cellsOf 117 = 1 := by kernel_rfl
@[simp] theorem infoS117 : (Try.prog.info? 117).isSome = true := by kernel_rfl
@[simp] theorem agg117 : aggT Try.prog 117 = some false := by kernel_rfl
theorem info117 : Try.prog.info? 117 = some Try.t117 := by kernel_rfl
attribute [simp] Try.underlying117
@[simp] theorem cells118 : Try.prog.cellsOf 118 = 1 := by kernel_rfl
@[simp] theorem infoS118 : (Try.prog.info? 118).isSome = true := by kernel_rfl
@[simp] theorem agg118 : aggT Try.prog 118 = some false := by kernel_rfl
theorem info118 : Try.prog.info? 118 = some Try.t118 := by kernel_rfl
attribute [simp] Try.underlying118
@[simp] theorem cells119 : Try.prog.cellsOf 119 = 1 := by kernel_rfl
@[simp] theorem infoS119 : (Try.prog.info? 119).isSome = true := by kernel_rfl
@[simp] theorem agg119 : aggT Try.prog 119 = some false := by kernel_rfl
theorem info119 : Try.prog.info? 119 = some Try.t119 := by kernel_rfl
attribute [simp] Try.underlying119
@[simp] theorem cells120 : Try.prog.cellsOf 120 = 1 := by kernel_rfl
@[simp] theorem infoS120 : (Try.prog.info? 120).isSome = true := by kernel_rfl
@[simp] theorem agg120 : aggT Try.prog 120 = some false := by kernel_rfl
theorem info120 : Try.prog.info? 120 = some Try.t120 := by kernel_rfl
attribute [simp] Try.underlying120
@[simp] theorem cells121 : Try.prog.cellsOf 121 = 1 := by kernel_rfl
@[simp] theorem infoS121 : (Try.prog.info? 121).isSome = true := by kernel_rfl
@[simp] theorem agg121 : aggT Try.prog 121 = some false := by kernel_rfl
theorem info121 : Try.prog.info? 121 = some Try.t121 := by kernel_rfl
attribute [simp] Try.underlying121
@[simp] theorem cells122 : Try.prog.cellsOf 122 = 1 := by kernel_rfl
@[simp] theorem infoS122 : (Try.prog.info? 122).isSome = true := by kernel_rfl
@[simp] theorem agg122 : aggT Try.prog 122 = some false := by kernel_rfl
theorem info122 : Try.prog.info? 122 = some Try.t122 := by kernel_rfl
attribute [simp] Try.underlying122
@[simp] theorem cells123 : Try.prog.cellsOf 123 = 1 := by kernel_rfl
@[simp] theorem infoS123 : (Try.prog.info? 123).isSome = true := by kernel_rfl
@[simp] theorem agg123 : aggT Try.prog 123 = some false := by kernel_rfl
theorem info123 : Try.prog.info? 123 = some Try.t123 := by kernel_rfl
attribute [simp] Try.underlying123
@[simp] theorem cells124 : Try.prog.cellsOf 124 = 1 := by kernel_rfl
@[simp] theorem infoS124 : (Try.prog.info? 124).isSome = true := by kernel_rfl
@[simp] theorem agg124 : aggT Try.prog 124 = some false := by kernel_rfl
theorem info124 : Try.prog.info? 124 = some Try.t124 := by kernel_rfl
attribute [simp] Try.underlying124
@[simp] theorem cells125 : Try.prog.cellsOf 125 = 1 := by kernel_rfl
@[simp] theorem infoS125 : (Try.prog.info? 125).isSome = true := by kernel_rfl
@[simp] theorem agg125 : aggT Try.prog 125 = some false := by kernel_rfl
theorem info125 : Try.prog.info? 125 = some Try.t125 := by kernel_rfl
attribute [simp] Try.underlying125
@[simp] theorem cells126 : Try.prog.cellsOf 126 = 1 := by kernel_rfl
@[simp] theorem infoS126 : (Try.prog.info? 126).isSome = true := by kernel_rfl
@[simp] theorem agg126 : aggT Try.prog 126 = some false := by kernel_rfl
theorem info126 : Try.prog.info? 126 = some Try.t126 := by kernel_rfl
attribute [simp] Try.underlying126
@[simp] theorem cells127 : Try.prog.cellsOf 127 = 1 := by kernel_rfl
@[simp] theorem infoS127 : (Try.prog.info? 127).isSome = true := by kernel_rfl
@[simp] theorem agg127 : aggT Try.prog 127 = some false := by kernel_rfl
theorem info127 : Try.prog.info? 127 = some Try.t127 := by kernel_rfl
attribute [simp] Try.underlying127
@[simp] theorem cells128 : Try.prog.cellsOf 128 = 1 := by kernel_rfl
@[simp] theorem infoS128 : (Try.prog.info? 128).isSome = true := by kernel_rfl
@[simp] theorem agg128 : aggT Try.prog 128 = some false := by kernel_rfl
theorem info128 : Try.prog.info? 128 = some Try.t128 := by kernel_rfl
attribute [simp] Try.underlying128
@[simp] theorem cells129 : Try.prog.cellsOf 129 = 1 := by kernel_rfl
@[simp] theorem infoS129 : (Try.prog.info? 129).isSome = true := by kernel_rfl
@[simp] theorem agg129 : aggT Try.prog 129 = some false := by kernel_rfl
theorem info129 : Try.prog.info? 129 = some Try.t129 := by kernel_rfl
attribute [simp] Try.underlying129
@[simp] theorem cells130 : Try.prog.cellsOf 130 = 1 := by kernel_rfl
@[simp] theorem infoS130 : (Try.prog.info? 130).isSome = true := by kernel_rfl
@[simp] theorem agg130 : aggT Try.prog 130 = some false := by kernel_rfl
theorem info130 : Try.prog.info? 130 = some Try.t130 := by kernel_rfl
attribute [simp] Try.underlying130
@[simp] theorem cells131 : Try.prog.cellsOf 131 = 1 := by kernel_rfl
@[simp] theorem infoS131 : (Try.prog.info? 131).isSome = true := by kernel_rfl
@[simp] theorem agg131 : aggT Try.prog 131 = some false := by kernel_rfl
theorem info131 : Try.prog.info? 131 = some Try.t131 := by kernel_rfl
attribute [simp] Try.underlying131
@[simp] theorem cells132 : Try.prog.cellsOf 132 = 1 := by kernel_rfl
@[simp] theorem infoS132 : (Try.prog.info? 132).isSome = true := by kernel_rfl
@[simp] theorem agg132 : aggT Try.prog 132 = some false := by kernel_rfl
theorem info132 : Try.prog.info? 132 = some Try.t132 := by kernel_rfl
attribute [simp] Try.underlying132
@[simp] theorem cells133 : Try.prog.cellsOf 133 = 1 := by kernel_rfl
@[simp] theorem infoS133 : (Try.prog.info? 133).isSome = true := by kernel_rfl
@[simp] theorem agg133 : aggT Try.prog 133 = some false := by kernel_rfl
theorem info133 : Try.prog.info? 133 = some Try.t133 := by kernel_rfl
attribute [simp] Try.underlying133
@[simp] theorem cells134 : Try.prog.cellsOf 134 = 1 := by kernel_rfl
@[simp] theorem infoS134 : (Try.prog.info? 134).isSome = true := by kernel_rfl
@[simp] theorem agg134 : aggT Try.prog 134 = some false := by kernel_rfl
theorem info134 : Try.prog.info? 134 = some Try.t134 := by kernel_rfl
attribute [simp] Try.underlying134
@[simp] theorem cells135 : Try.prog.cellsOf 135 = 4 := by kernel_rfl
@[simp] theorem infoS135 : (Try.prog.info? 135).isSome = true := by kernel_rfl
@[simp] theorem agg135 : aggT Try.prog 135 = some true := by kernel_rfl
theorem info135 : Try.prog.info? 135 = some Try.t135 := by kernel_rfl
attribute [simp] Try.underlying135
@[simp] theorem cells136 : Try.prog.cellsOf 136 = 4 := by kernel_rfl
@[simp] theorem infoS136 : (Try.prog.info? 136).isSome = true := by kernel_rfl
@[simp] theorem agg136 : aggT Try.prog 136 = some true := by kernel_rfl
theorem info136 : Try.prog.info? 136 = some Try.t136 := by kernel_rfl
attribute [simp] Try.underlying136
@[simp] theorem cells137 : Try.prog.cellsOf 137 = 0 := by kernel_rfl
@[simp] theorem infoS137 : (Try.prog.info? 137).isSome = true := by kernel_rfl
@[simp] theorem agg137 : aggT Try.prog 137 = some true := by kernel_rfl
theorem info137 : Try.prog.info? 137 = some Try.t137 := by kernel_rfl
attribute [simp] Try.underlying137
@[simp] theorem cells138 : Try.prog.cellsOf 138 = 0 := by kernel_rfl
@[simp] theorem infoS138 : (Try.prog.info? 138).isSome = true := by kernel_rfl
@[simp] theorem agg138 : aggT Try.prog 138 = some true := by kernel_rfl
theorem info138 : Try.prog.info? 138 = some Try.t138 := by kernel_rfl
attribute [simp] Try.underlying138
@[simp] theorem cells139 : Try.prog.cellsOf 139 = 0 := by kernel_rfl
@[simp] theorem infoS139 : (Try.prog.info? 139).isSome = true := by kernel_rfl
@[simp] theorem agg139 : aggT Try.prog 139 = some true := by kernel_rfl
theorem info139 : Try.prog.info? 139 = some Try.t139 := by kernel_rfl
attribute [simp] Try.underlying139
@[simp] theorem cells140 : Try.prog.cellsOf 140 = 1 := by kernel_rfl
@[simp] theorem infoS140 : (Try.prog.info? 140).isSome = true := by kernel_rfl
@[simp] theorem agg140 : aggT Try.prog 140 = some false := by kernel_rfl
theorem info140 : Try.prog.info? 140 = some Try.t140 := by kernel_rfl
attribute [simp] Try.underlying140
@[simp] theorem cells141 : Try.prog.cellsOf 141 = 1 := by kernel_rfl
@[simp] theorem infoS141 : (Try.prog.info? 141).isSome = true := by kernel_rfl
@[simp] theorem agg141 : aggT Try.prog 141 = some false := by kernel_rfl
theorem info141 : Try.prog.info? 141 = some Try.t141 := by kernel_rfl
attribute [simp] Try.underlying141
@[simp] theorem cells142 : Try.prog.cellsOf 142 = 1 := by kernel_rfl
@[simp] theorem infoS142 : (Try.prog.info? 142).isSome = true := by kernel_rfl
@[simp] theorem agg142 : aggT Try.prog 142 = some false := by kernel_rfl
theorem info142 : Try.prog.info? 142 = some Try.t142 := by kernel_rfl
attribute [simp] Try.underlying142
@[simp] theorem cells143 : Try.prog.cellsOf 143 = 1 := by kernel_rfl
@[simp] theorem infoS143 : (Try.prog.info? 143).isSome = true := by kernel_rfl
@[simp] theorem agg143 : aggT Try.prog 143 = some false := by kernel_rfl
theorem info143 : Try.prog.info? 143 = some Try.t143 := by kernel_rfl
attribute [simp] Try.underlying143
@[simp] theorem cells144 : Try.prog.cellsOf 144 = 1 := by kernel_rfl
@[simp] theorem infoS144 : (Try.prog.info? 144).isSome = true := by kernel_rfl
@[simp] theorem agg144 : aggT Try.prog 144 = some false := by kernel_rfl
theorem info144 : Try.prog.info? 144 = some Try.t144 := by kernel_rfl
attribute [simp] Try.underlying144
@[simp] theorem cells145 : Try.prog.cellsOf 145 = 1 := by kernel_rfl
@[simp] theorem infoS145 : (Try.prog.info? 145).isSome = true := by kernel_rfl
@[simp] theorem agg145 : aggT Try.prog 145 = some false := by kernel_rfl
theorem info145 : Try.prog.info? 145 = some Try.t145 := by kernel_rfl
attribute [simp] Try.underlying145
@[simp] theorem cells146 : Try.prog.cellsOf 146 = 11 := by kernel_rfl
@[simp] theorem infoS146 : (Try.prog.info? 146).isSome = true := by kernel_rfl
@[simp] theorem agg146 : aggT Try.prog 146 = some true := by kernel_rfl
theorem info146 : Try.prog.info? 146 = some Try.t146 := by kernel_rfl
attribute [simp] Try.underlying146
@[simp] theorem cells147 : Try.prog.cellsOf 147 = 11 := by kernel_rfl
@[simp] theorem infoS147 : (Try.prog.info? 147).isSome = true := by kernel_rfl
@[simp] theorem agg147 : aggT Try.prog 147 = some true := by kernel_rfl
theorem info147 : Try.prog.info? 147 = some Try.t147 := by kernel_rfl
attribute [simp] Try.underlying147
@[simp] theorem cells148 : Try.prog.cellsOf 148 = 1 := by kernel_rfl
@[simp] theorem infoS148 : (Try.prog.info? 148).isSome = true := by kernel_rfl
@[simp] theorem agg148 : aggT Try.prog 148 = some false := by kernel_rfl
theorem info148 : Try.prog.info? 148 = some Try.t148 := by kernel_rfl
attribute [simp] Try.underlying148
end Go.Am
