/-
  FACTS of the program's types, by a program: sizes, kinds.
-/
import Derived.Test.YtkapnilnhoiooaaGreatAmD
import Derived.Test.YtkapnilnhoiooaaGreatRows
set_option linter.unusedVariables false
set_option linter.unusedSimpArgs false
namespace Go.Am
open Go.Proofs
attribute [simp] Tryz.underlying0
attribute [simp] Tryz.underlying1
attribute [simp] Tryz.underlying2
@[simp] theorem zxk:Tryz.prog.cellsOf 3=1:=by kernel_rfl
attribute [simp] Tryz.underlying3
@[simp] theorem zxl:Tryz.prog.cellsOf 4=1:=by kernel_rfl
attribute [simp] Tryz.underlying4
@[simp] theorem zxm:Tryz.prog.cellsOf 5=1:=by kernel_rfl
attribute [simp] Tryz.underlying5
attribute [simp] Tryz.underlying6
attribute [simp] Tryz.underlying7
attribute [simp] Tryz.underlying8
@[simp] theorem zxn:Tryz.prog.cellsOf 9=1:=by kernel_rfl
attribute [simp] Tryz.underlying9
attribute [simp] Tryz.underlying10
attribute [simp] Tryz.underlying11
attribute [simp] Tryz.underlying12
attribute [simp] Tryz.underlying13
attribute [simp] Tryz.underlying14
attribute [simp] Tryz.underlying15
attribute [simp] Tryz.underlying16
attribute [simp] Tryz.underlying17
attribute [simp] Tryz.underlying18
attribute [simp] Tryz.underlying19
attribute [simp] Tryz.underlying20
attribute [simp] Tryz.underlying21
attribute [simp] Tryz.underlying22
attribute [simp] Tryz.underlying23
attribute [simp] Tryz.underlying24
attribute [simp] Tryz.underlying25
@[simp] theorem zwG:Tryz.prog.cellsOf 26=1:=by kernel_rfl
attribute [simp] Tryz.underlying26
attribute [simp] Tryz.underlying27
attribute [simp] Tryz.underlying28
@[simp] theorem zwH:Tryz.prog.cellsOf 29=2:=by kernel_rfl
attribute [simp] Tryz.underlying29
attribute [simp] Tryz.underlying30
attribute [simp] Tryz.underlying31
@[simp] theorem zwI:Tryz.prog.cellsOf 32=5:=by kernel_rfl
attribute [simp] Tryz.underlying32
attribute [simp] Tryz.underlying33
@[simp] theorem zwJ:Tryz.prog.cellsOf 34=1:=by kernel_rfl
attribute [simp] Tryz.underlying34
@[simp] theorem zwK:Tryz.prog.cellsOf 35=1:=by kernel_rfl
attribute [simp] Tryz.underlying35
attribute [simp] Tryz.underlying36
@[simp] theorem zwL:Tryz.prog.cellsOf 37=6:=by kernel_rfl
attribute [simp] Tryz.underlying37
attribute [simp] Tryz.underlying38
@[simp] theorem zwM:Tryz.prog.cellsOf 39=128:=by kernel_rfl
attribute [simp] Tryz.underlying39
attribute [simp] Tryz.underlying40
attribute [simp] Tryz.underlying41
attribute [simp] Tryz.underlying42
attribute [simp] Tryz.underlying43
attribute [simp] Tryz.underlying44
attribute [simp] Tryz.underlying45
attribute [simp] Tryz.underlying46
attribute [simp] Tryz.underlying47
attribute [simp] Tryz.underlying48
attribute [simp] Tryz.underlying49
attribute [simp] Tryz.underlying50
attribute [simp] Tryz.underlying51
attribute [simp] Tryz.underlying52
attribute [simp] Tryz.underlying53
attribute [simp] Tryz.underlying54
attribute [simp] Tryz.underlying55
attribute [simp] Tryz.underlying56
attribute [simp] Tryz.underlying57
@[simp] theorem zwN:Tryz.prog.cellsOf 58=5:=by kernel_rfl
attribute [simp] Tryz.underlying58
attribute [simp] Tryz.underlying59
attribute [simp] Tryz.underlying60
attribute [simp] Tryz.underlying61
attribute [simp] Tryz.underlying62
attribute [simp] Tryz.underlying63
attribute [simp] Tryz.underlying64
attribute [simp] Tryz.underlying65
attribute [simp] Tryz.underlying66
attribute [simp] Tryz.underlying67
attribute [simp] Tryz.underlying68
attribute [simp] Tryz.underlying69
attribute [simp] Tryz.underlying70
attribute [simp] Tryz.underlying71
attribute [simp] Tryz.underlying72
attribute [simp] Tryz.underlying73
attribute [simp] Tryz.underlying74
attribute [simp] Tryz.underlying75
@[simp] theorem zwO:Tryz.prog.cellsOf 76=1:=by kernel_rfl
attribute [simp] Tryz.underlying76
attribute [simp] Tryz.underlying77
@[simp] theorem zwP:Tryz.prog.cellsOf 78=3:=by kernel_rfl
attribute [simp] Tryz.underlying78
attribute [simp] Tryz.underlying79
attribute [simp] Tryz.underlying80
attribute [simp] Tryz.underlying81
attribute [simp] Tryz.underlying82
attribute [simp] Tryz.underlying83
attribute [simp] Tryz.underlying84
attribute [simp] Tryz.underlying85
attribute [simp] Tryz.underlying86
attribute [simp] Tryz.underlying87
attribute [simp] Tryz.underlying88
attribute [simp] Tryz.underlying89
attribute [simp] Tryz.underlying90
attribute [simp] Tryz.underlying91
attribute [simp] Tryz.underlying92
attribute [simp] Tryz.underlying93
attribute [simp] Tryz.underlying94
attribute [simp] Tryz.underlying95
attribute [simp] Tryz.underlying96
attribute [simp] Tryz.underlying97
@[simp] theorem zwQ:Tryz.prog.cellsOf 98=4:=by kernel_rfl
attribute [simp] Tryz.underlying98
attribute [simp] Tryz.underlying99
attribute [simp] Tryz.underlying100
attribute [simp] Tryz.underlying101
attribute [simp] Tryz.underlying102
attribute [simp] Tryz.underlying103
attribute [simp] Tryz.underlying104
attribute [simp] Tryz.underlying105
attribute [simp] Tryz.underlying106
attribute [simp] Tryz.underlying107
attribute [simp] Tryz.underlying108
attribute [simp] Tryz.underlying109
attribute [simp] Tryz.underlying110
attribute [simp] Tryz.underlying111
attribute [simp] Tryz.underlying112
attribute [simp] Tryz.underlying113
attribute [simp] Tryz.underlying114
attribute [simp] Tryz.underlying115
attribute [simp] Tryz.underlying116
attribute [simp] Tryz.underlying117
attribute [simp] Tryz.underlying118
attribute [simp] Tryz.underlying119
attribute [simp] Tryz.underlying120
attribute [simp] Tryz.underlying121
attribute [simp] Tryz.underlying122
attribute [simp] Tryz.underlying123
attribute [simp] Tryz.underlying124
attribute [simp] Tryz.underlying125
attribute [simp] Tryz.underlying126
attribute [simp] Tryz.underlying127
attribute [simp] Tryz.underlying128
attribute [simp] Tryz.underlying129
attribute [simp] Tryz.underlying130
attribute [simp] Tryz.underlying131
attribute [simp] Tryz.underlying132
attribute [simp] Tryz.underlying133
attribute [simp] Tryz.underlying134
attribute [simp] Tryz.underlying135
attribute [simp] Tryz.underlying136
attribute [simp] Tryz.underlying137
attribute [simp] Tryz.underlying138
attribute [simp] Tryz.underlying139
attribute [simp] Tryz.underlying140
attribute [simp] Tryz.underlying141
attribute [simp] Tryz.underlying142
attribute [simp] Tryz.underlying143
attribute [simp] Tryz.underlying144
attribute [simp] Tryz.underlying145
attribute [simp] Tryz.underlying146
attribute [simp] Tryz.underlying147
attribute [simp] Tryz.underlying148
attribute [simp] Tryz.underlying149
@[simp] theorem zwq:Tryz.prog.cellsOf 150=2:=by kernel_rfl
attribute [simp] Tryz.underlying150
attribute [simp] Tryz.underlying151
attribute [simp] Tryz.underlying152
attribute [simp] Tryz.underlying153
attribute [simp] Tryz.underlying154
attribute [simp] Tryz.underlying155
attribute [simp] Tryz.underlying156
attribute [simp] Tryz.underlying157
attribute [simp] Tryz.underlying158
attribute [simp] Tryz.underlying159
attribute [simp] Tryz.underlying160
attribute [simp] Tryz.underlying161
attribute [simp] Tryz.underlying162
attribute [simp] Tryz.underlying163
attribute [simp] Tryz.underlying164
attribute [simp] Tryz.underlying165
attribute [simp] Tryz.underlying166
attribute [simp] Tryz.underlying167
attribute [simp] Tryz.underlying168
attribute [simp] Tryz.underlying169
attribute [simp] Tryz.underlying170
attribute [simp] Tryz.underlying171
attribute [simp] Tryz.underlying172
attribute [simp] Tryz.underlying173
attribute [simp] Tryz.underlying174
attribute [simp] Tryz.underlying175
attribute [simp] Tryz.underlying176
attribute [simp] Tryz.underlying177
attribute [simp] Tryz.underlying178
attribute [simp] Tryz.underlying179
attribute [simp] Tryz.underlying180
attribute [simp] Tryz.underlying181
attribute [simp] Tryz.underlying182
attribute [simp] Tryz.underlying183
attribute [simp] Tryz.underlying184
attribute [simp] Tryz.underlying185
attribute [simp] Tryz.underlying186
end Go.Am
