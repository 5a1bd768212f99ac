/-
  FACTS of the program's types, by a program: sizes, kinds.
-/
import Derived.Test.YtihmdaifbmchjaaGreatAmD
import Derived.Test.YtihmdaifbmchjaaGreatRows
set_option linter.unusedVariables false
set_option linter.unusedSimpArgs false
namespace Go.Am
open Go.Proofs
attribute [simp] Tryz.underlying0
attribute [simp] Tryz.underlying1
attribute [simp] Tryz.underlying2
@[simp] theorem zDk:Tryz.prog.cellsOf 3=1:=by kernel_rfl
@[simp] theorem zDl:(Tryz.prog.info? 3).isSome=true:=by kernel_rfl
@[simp] theorem zEw:zhB Tryz.prog 3=some false:=by kernel_rfl
theorem zB0:Tryz.prog.info? 3=some Tryz.t3:=by kernel_rfl
attribute [simp] Tryz.underlying3
@[simp] theorem zDm:Tryz.prog.cellsOf 4=1:=by kernel_rfl
@[simp] theorem zDn:(Tryz.prog.info? 4).isSome=true:=by kernel_rfl
@[simp] theorem zEx:zhB Tryz.prog 4=some false:=by kernel_rfl
attribute [simp] Tryz.underlying4
@[simp] theorem zDo:Tryz.prog.cellsOf 5=1:=by kernel_rfl
@[simp] theorem zDp:(Tryz.prog.info? 5).isSome=true:=by kernel_rfl
@[simp] theorem zEy:zhB Tryz.prog 5=some false:=by kernel_rfl
attribute [simp] Tryz.underlying5
attribute [simp] Tryz.underlying6
attribute [simp] Tryz.underlying7
attribute [simp] Tryz.underlying8
@[simp] theorem zDq:Tryz.prog.cellsOf 9=1:=by kernel_rfl
attribute [simp] Tryz.underlying9
attribute [simp] Tryz.underlying10
attribute [simp] Tryz.underlying11
attribute [simp] Tryz.underlying12
attribute [simp] Tryz.underlying13
attribute [simp] Tryz.underlying14
attribute [simp] Tryz.underlying15
attribute [simp] Tryz.underlying16
attribute [simp] Tryz.underlying17
attribute [simp] Tryz.underlying18
attribute [simp] Tryz.underlying19
attribute [simp] Tryz.underlying20
attribute [simp] Tryz.underlying21
@[simp] theorem zB1:Tryz.prog.cellsOf 22=1:=by kernel_rfl
attribute [simp] Tryz.underlying22
@[simp] theorem zB2:Tryz.prog.cellsOf 23=1:=by kernel_rfl
attribute [simp] Tryz.underlying23
attribute [simp] Tryz.underlying24
attribute [simp] Tryz.underlying25
attribute [simp] Tryz.underlying26
attribute [simp] Tryz.underlying27
attribute [simp] Tryz.underlying28
attribute [simp] Tryz.underlying29
attribute [simp] Tryz.underlying30
attribute [simp] Tryz.underlying31
attribute [simp] Tryz.underlying32
attribute [simp] Tryz.underlying33
attribute [simp] Tryz.underlying34
attribute [simp] Tryz.underlying35
attribute [simp] Tryz.underlying36
attribute [simp] Tryz.underlying37
attribute [simp] Tryz.underlying38
attribute [simp] Tryz.underlying39
@[simp] theorem zB3:Tryz.prog.cellsOf 40=1:=by kernel_rfl
attribute [simp] Tryz.underlying40
attribute [simp] Tryz.underlying41
@[simp] theorem zB4:Tryz.prog.cellsOf 42=3:=by kernel_rfl
@[simp] theorem zB5:(Tryz.prog.info? 42).isSome=true:=by kernel_rfl
attribute [simp] Tryz.underlying42
attribute [simp] Tryz.underlying43
@[simp] theorem zB6:Tryz.prog.cellsOf 44=7:=by kernel_rfl
attribute [simp] Tryz.underlying44
attribute [simp] Tryz.underlying45
attribute [simp] Tryz.underlying46
attribute [simp] Tryz.underlying47
attribute [simp] Tryz.underlying48
attribute [simp] Tryz.underlying49
attribute [simp] Tryz.underlying50
attribute [simp] Tryz.underlying51
attribute [simp] Tryz.underlying52
@[simp] theorem zB7:Tryz.prog.cellsOf 53=1:=by kernel_rfl
attribute [simp] Tryz.underlying53
attribute [simp] Tryz.underlying54
attribute [simp] Tryz.underlying55
attribute [simp] Tryz.underlying56
attribute [simp] Tryz.underlying57
attribute [simp] Tryz.underlying58
attribute [simp] Tryz.underlying59
@[simp] theorem zB8:Tryz.prog.cellsOf 60=1:=by kernel_rfl
attribute [simp] Tryz.underlying60
attribute [simp] Tryz.underlying61
@[simp] theorem zB9:Tryz.prog.cellsOf 62=11:=by kernel_rfl
attribute [simp] Tryz.underlying62
attribute [simp] Tryz.underlying63
attribute [simp] Tryz.underlying64
attribute [simp] Tryz.underlying65
attribute [simp] Tryz.underlying66
attribute [simp] Tryz.underlying67
attribute [simp] Tryz.underlying68
attribute [simp] Tryz.underlying69
attribute [simp] Tryz.underlying70
attribute [simp] Tryz.underlying71
attribute [simp] Tryz.underlying72
attribute [simp] Tryz.underlying73
attribute [simp] Tryz.underlying74
attribute [simp] Tryz.underlying75
attribute [simp] Tryz.underlying76
attribute [simp] Tryz.underlying77
attribute [simp] Tryz.underlying78
attribute [simp] Tryz.underlying79
attribute [simp] Tryz.underlying80
@[simp] theorem zCa:Tryz.prog.cellsOf 81=1:=by kernel_rfl
@[simp] theorem zCb:(Tryz.prog.info? 81).isSome=true:=by kernel_rfl
@[simp] theorem zEc:zhB Tryz.prog 81=some false:=by kernel_rfl
attribute [simp] Tryz.underlying81
attribute [simp] Tryz.underlying82
attribute [simp] Tryz.underlying83
attribute [simp] Tryz.underlying84
attribute [simp] Tryz.underlying85
attribute [simp] Tryz.underlying86
attribute [simp] Tryz.underlying87
attribute [simp] Tryz.underlying88
attribute [simp] Tryz.underlying89
@[simp] theorem zCc:Tryz.prog.cellsOf 90=2:=by kernel_rfl
@[simp] theorem zCd:(Tryz.prog.info? 90).isSome=true:=by kernel_rfl
theorem zz6:Tryz.prog.info? 90=some Tryz.t90:=by kernel_rfl
attribute [simp] Tryz.underlying90
attribute [simp] Tryz.underlying91
attribute [simp] Tryz.underlying92
attribute [simp] Tryz.underlying93
attribute [simp] Tryz.underlying94
attribute [simp] Tryz.underlying95
@[simp] theorem zCe:Tryz.prog.cellsOf 96=1024:=by kernel_rfl
attribute [simp] Tryz.underlying96
attribute [simp] Tryz.underlying97
attribute [simp] Tryz.underlying98
attribute [simp] Tryz.underlying99
attribute [simp] Tryz.underlying100
attribute [simp] Tryz.underlying101
attribute [simp] Tryz.underlying102
attribute [simp] Tryz.underlying103
attribute [simp] Tryz.underlying104
attribute [simp] Tryz.underlying105
attribute [simp] Tryz.underlying106
attribute [simp] Tryz.underlying107
attribute [simp] Tryz.underlying108
attribute [simp] Tryz.underlying109
attribute [simp] Tryz.underlying110
attribute [simp] Tryz.underlying111
@[simp] theorem zBc:Tryz.prog.cellsOf 112=128:=by kernel_rfl
attribute [simp] Tryz.underlying112
attribute [simp] Tryz.underlying113
attribute [simp] Tryz.underlying114
attribute [simp] Tryz.underlying115
attribute [simp] Tryz.underlying116
attribute [simp] Tryz.underlying117
attribute [simp] Tryz.underlying118
attribute [simp] Tryz.underlying119
attribute [simp] Tryz.underlying120
attribute [simp] Tryz.underlying121
attribute [simp] Tryz.underlying122
attribute [simp] Tryz.underlying123
attribute [simp] Tryz.underlying124
attribute [simp] Tryz.underlying125
attribute [simp] Tryz.underlying126
attribute [simp] Tryz.underlying127
attribute [simp] Tryz.underlying128
attribute [simp] Tryz.underlying129
attribute [simp] Tryz.underlying130
attribute [simp] Tryz.underlying131
attribute [simp] Tryz.underlying132
attribute [simp] Tryz.underlying133
attribute [simp] Tryz.underlying134
attribute [simp] Tryz.underlying135
attribute [simp] Tryz.underlying136
attribute [simp] Tryz.underlying137
attribute [simp] Tryz.underlying138
attribute [simp] Tryz.underlying139
attribute [simp] Tryz.underlying140
attribute [simp] Tryz.underlying141
attribute [simp] Tryz.underlying142
attribute [simp] Tryz.underlying143
attribute [simp] Tryz.underlying144
attribute [simp] Tryz.underlying145
attribute [simp] Tryz.underlying146
attribute [simp] Tryz.underlying147
attribute [simp] Tryz.underlying148
attribute [simp] Tryz.underlying149
attribute [simp] Tryz.underlying150
attribute [simp] Tryz.underlying151
attribute [simp] Tryz.underlying152
attribute [simp] Tryz.underlying153
attribute [simp] Tryz.underlying154
attribute [simp] Tryz.underlying155
attribute [simp] Tryz.underlying156
attribute [simp] Tryz.underlying157
attribute [simp] Tryz.underlying158
attribute [simp] Tryz.underlying159
attribute [simp] Tryz.underlying160
attribute [simp] Tryz.underlying161
attribute [simp] Tryz.underlying162
attribute [simp] Tryz.underlying163
attribute [simp] Tryz.underlying164
attribute [simp] Tryz.underlying165
attribute [simp] Tryz.underlying166
attribute [simp] Tryz.underlying167
attribute [simp] Tryz.underlying168
attribute [simp] Tryz.underlying169
attribute [simp] Tryz.underlying170
attribute [simp] Tryz.underlying171
attribute [simp] Tryz.underlying172
attribute [simp] Tryz.underlying173
attribute [simp] Tryz.underlying174
attribute [simp] Tryz.underlying175
attribute [simp] Tryz.underlying176
attribute [simp] Tryz.underlying177
attribute [simp] Tryz.underlying178
attribute [simp] Tryz.underlying179
attribute [simp] Tryz.underlying180
attribute [simp] Tryz.underlying181
attribute [simp] Tryz.underlying182
attribute [simp] Tryz.underlying183
attribute [simp] Tryz.underlying184
attribute [simp] Tryz.underlying185
attribute [simp] Tryz.underlying186
attribute [simp] Tryz.underlying187
attribute [simp] Tryz.underlying188
attribute [simp] Tryz.underlying189
attribute [simp] Tryz.underlying190
attribute [simp] Tryz.underlying191
attribute [simp] Tryz.underlying192
attribute [simp] Tryz.underlying193
attribute [simp] Tryz.underlying194
attribute [simp] Tryz.underlying195
attribute [simp] Tryz.underlying196
attribute [simp] Tryz.underlying197
attribute [simp] Tryz.underlying198
attribute [simp] Tryz.underlying199
attribute [simp] Tryz.underlying200
attribute [simp] Tryz.underlying201
attribute [simp] Tryz.underlying202
attribute [simp] Tryz.underlying203
attribute [simp] Tryz.underlying204
attribute [simp] Tryz.underlying205
attribute [simp] Tryz.underlying206
attribute [simp] Tryz.underlying207
attribute [simp] Tryz.underlying208
attribute [simp] Tryz.underlying209
attribute [simp] Tryz.underlying210
attribute [simp] Tryz.underlying211
attribute [simp] Tryz.underlying212
attribute [simp] Tryz.underlying213
attribute [simp] Tryz.underlying214
attribute [simp] Tryz.underlying215
attribute [simp] Tryz.underlying216
attribute [simp] Tryz.underlying217
attribute [simp] Tryz.underlying218
attribute [simp] Tryz.underlying219
attribute [simp] Tryz.underlying220
attribute [simp] Tryz.underlying221
attribute [simp] Tryz.underlying222
attribute [simp] Tryz.underlying223
attribute [simp] Tryz.underlying224
attribute [simp] Tryz.underlying225
attribute [simp] Tryz.underlying226
attribute [simp] Tryz.underlying227
attribute [simp] Tryz.underlying228
attribute [simp] Tryz.underlying229
attribute [simp] Tryz.underlying230
attribute [simp] Tryz.underlying231
attribute [simp] Tryz.underlying232
attribute [simp] Tryz.underlying233
attribute [simp] Tryz.underlying234
attribute [simp] Tryz.underlying235
attribute [simp] Tryz.underlying236
attribute [simp] Tryz.underlying237
attribute [simp] Tryz.underlying238
attribute [simp] Tryz.underlying239
attribute [simp] Tryz.underlying240
attribute [simp] Tryz.underlying241
attribute [simp] Tryz.underlying242
attribute [simp] Tryz.underlying243
attribute [simp] Tryz.underlying244
attribute [simp] Tryz.underlying245
attribute [simp] Tryz.underlying246
attribute [simp] Tryz.underlying247
attribute [simp] Tryz.underlying248
attribute [simp] Tryz.underlying249
attribute [simp] Tryz.underlying250
attribute [simp] Tryz.underlying251
attribute [simp] Tryz.underlying252
attribute [simp] Tryz.underlying253
attribute [simp] Tryz.underlying254
attribute [simp] Tryz.underlying255
attribute [simp] Tryz.underlying256
attribute [simp] Tryz.underlying257
attribute [simp] Tryz.underlying258
attribute [simp] Tryz.underlying259
end Go.Am
