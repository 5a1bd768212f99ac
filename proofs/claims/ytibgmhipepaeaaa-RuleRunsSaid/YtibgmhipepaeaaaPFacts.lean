/-
  FACTS of the program's types, by a program: sizes, kinds.
-/
import Derived.Test.YtibgmhipepaeaaaAmD
import Derived.Test.YtibgmhipepaeaaaRows
set_option linter.unusedVariables false
set_option linter.unusedSimpArgs false
namespace Go.Am
open Go.Proofs
attribute [simp] Try.underlying0
attribute [simp] Try.underlying1
attribute [simp] Try.underlying2
@[simp] theorem cells3 : Try.prog.cellsOf 3 = 1 := by kernel_rfl
attribute [simp] Try.underlying3
attribute [simp] Try.underlying4
attribute [simp] Try.underlying5
attribute [simp] Try.underlying6
attribute [simp] Try.underlying7
attribute [simp] Try.underlying8
@[simp] theorem cells9 : Try.prog.cellsOf 9 = 1 := by kernel_rfl
attribute [simp] Try.underlying9
attribute [simp] Try.underlying10
attribute [simp] Try.underlying11
attribute [simp] Try.underlying12
attribute [simp] Try.underlying13
attribute [simp] Try.underlying14
attribute [simp] Try.underlying15
attribute [simp] Try.underlying16
attribute [simp] Try.underlying17
attribute [simp] Try.underlying18
attribute [simp] Try.underlying19
attribute [simp] Try.underlying20
attribute [simp] Try.underlying21
@[simp] theorem cells22 : Try.prog.cellsOf 22 = 1 := by kernel_rfl
attribute [simp] Try.underlying22
@[simp] theorem cells23 : Try.prog.cellsOf 23 = 1 := by kernel_rfl
attribute [simp] Try.underlying23
attribute [simp] Try.underlying24
@[simp] theorem cells25 : Try.prog.cellsOf 25 = 3 := by kernel_rfl
attribute [simp] Try.underlying25
@[simp] theorem cells26 : Try.prog.cellsOf 26 = 1 := by kernel_rfl
attribute [simp] Try.underlying26
attribute [simp] Try.underlying27
@[simp] theorem cells28 : Try.prog.cellsOf 28 = 11 := by kernel_rfl
attribute [simp] Try.underlying28
attribute [simp] Try.underlying29
attribute [simp] Try.underlying30
attribute [simp] Try.underlying31
attribute [simp] Try.underlying32
attribute [simp] Try.underlying33
attribute [simp] Try.underlying34
attribute [simp] Try.underlying35
@[simp] theorem cells36 : Try.prog.cellsOf 36 = 2 := by kernel_rfl
attribute [simp] Try.underlying36
attribute [simp] Try.underlying37
attribute [simp] Try.underlying38
attribute [simp] Try.underlying39
attribute [simp] Try.underlying40
attribute [simp] Try.underlying41
attribute [simp] Try.underlying42
attribute [simp] Try.underlying43
attribute [simp] Try.underlying44
attribute [simp] Try.underlying45
attribute [simp] Try.underlying46
attribute [simp] Try.underlying47
attribute [simp] Try.underlying48
attribute [simp] Try.underlying49
attribute [simp] Try.underlying50
attribute [simp] Try.underlying51
attribute [simp] Try.underlying52
attribute [simp] Try.underlying53
attribute [simp] Try.underlying54
attribute [simp] Try.underlying55
attribute [simp] Try.underlying56
attribute [simp] Try.underlying57
@[simp] theorem cells58 : Try.prog.cellsOf 58 = 6 := by kernel_rfl
attribute [simp] Try.underlying58
attribute [simp] Try.underlying59
attribute [simp] Try.underlying60
attribute [simp] Try.underlying61
attribute [simp] Try.underlying62
attribute [simp] Try.underlying63
attribute [simp] Try.underlying64
attribute [simp] Try.underlying65
attribute [simp] Try.underlying66
attribute [simp] Try.underlying67
attribute [simp] Try.underlying68
attribute [simp] Try.underlying69
attribute [simp] Try.underlying70
attribute [simp] Try.underlying71
attribute [simp] Try.underlying72
@[simp] theorem cells73 : Try.prog.cellsOf 73 = 2 := by kernel_rfl
attribute [simp] Try.underlying73
attribute [simp] Try.underlying74
attribute [simp] Try.underlying75
attribute [simp] Try.underlying76
attribute [simp] Try.underlying77
attribute [simp] Try.underlying78
attribute [simp] Try.underlying79
attribute [simp] Try.underlying80
attribute [simp] Try.underlying81
attribute [simp] Try.underlying82
attribute [simp] Try.underlying83
attribute [simp] Try.underlying84
attribute [simp] Try.underlying85
attribute [simp] Try.underlying86
attribute [simp] Try.underlying87
attribute [simp] Try.underlying88
attribute [simp] Try.underlying89
attribute [simp] Try.underlying90
attribute [simp] Try.underlying91
attribute [simp] Try.underlying92
attribute [simp] Try.underlying93
attribute [simp] Try.underlying94
attribute [simp] Try.underlying95
attribute [simp] Try.underlying96
attribute [simp] Try.underlying97
attribute [simp] Try.underlying98
attribute [simp] Try.underlying99
attribute [simp] Try.underlying100
attribute [simp] Try.underlying101
attribute [simp] Try.underlying102
attribute [simp] Try.underlying103
attribute [simp] Try.underlying104
attribute [simp] Try.underlying105
attribute [simp] Try.underlying106
attribute [simp] Try.underlying107
attribute [simp] Try.underlying108
attribute [simp] Try.underlying109
attribute [simp] Try.underlying110
attribute [simp] Try.underlying111
attribute [simp] Try.underlying112
attribute [simp] Try.underlying113
attribute [simp] Try.underlying114
attribute [simp] Try.underlying115
attribute [simp] Try.underlying116
attribute [simp] Try.underlying117
attribute [simp] Try.underlying118
attribute [simp] Try.underlying119
attribute [simp] Try.underlying120
attribute [simp] Try.underlying121
attribute [simp] Try.underlying122
attribute [simp] Try.underlying123
attribute [simp] Try.underlying124
attribute [simp] Try.underlying125
attribute [simp] Try.underlying126
attribute [simp] Try.underlying127
attribute [simp] Try.underlying128
attribute [simp] Try.underlying129
attribute [simp] Try.underlying130
attribute [simp] Try.underlying131
attribute [simp] Try.underlying132
attribute [simp] Try.underlying133
attribute [simp] Try.underlying134
attribute [simp] Try.underlying135
attribute [simp] Try.underlying136
attribute [simp] Try.underlying137
attribute [simp] Try.underlying138
attribute [simp] Try.underlying139
attribute [simp] Try.underlying140
attribute [simp] Try.underlying141
attribute [simp] Try.underlying142
attribute [simp] Try.underlying143
attribute [simp] Try.underlying144
attribute [simp] Try.underlying145
attribute [simp] Try.underlying146
attribute [simp] Try.underlying147
attribute [simp] Try.underlying148
attribute [simp] Try.underlying149
attribute [simp] Try.underlying150
attribute [simp] Try.underlying151
attribute [simp] Try.underlying152
attribute [simp] Try.underlying153
attribute [simp] Try.underlying154
attribute [simp] Try.underlying155
attribute [simp] Try.underlying156
attribute [simp] Try.underlying157
attribute [simp] Try.underlying158
attribute [simp] Try.underlying159
end Go.Am
