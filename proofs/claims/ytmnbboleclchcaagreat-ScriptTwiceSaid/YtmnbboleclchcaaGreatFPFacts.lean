/-
  Texts of this proof, part 17. No condition.
-/
import Derived.Test.YtmnbboleclchcaaGreatFAm5s
import Derived.Test.YtmnbboleclchcaaGreatRows
set_option linter.unusedVariables false
set_option linter.unusedSimpArgs false
namespace Go.Am
open Go.Proofs
attribute [simp] Tryz.underlying0
attribute [simp] Tryz.underlying1
attribute [simp] Tryz.underlying2
@[simp] theorem zAG:Tryz.prog.cellsOf 3=1:=by kernel_rfl
attribute [simp] Tryz.underlying3
attribute [simp] Tryz.underlying4
@[simp] theorem zAH:Tryz.prog.cellsOf 5=1:=by kernel_rfl
attribute [simp] Tryz.underlying5
attribute [simp] Tryz.underlying6
attribute [simp] Tryz.underlying7
attribute [simp] Tryz.underlying8
@[simp] theorem zAI:Tryz.prog.cellsOf 9=1:=by kernel_rfl
attribute [simp] Tryz.underlying9
attribute [simp] Tryz.underlying10
attribute [simp] Tryz.underlying11
attribute [simp] Tryz.underlying12
attribute [simp] Tryz.underlying13
attribute [simp] Tryz.underlying14
attribute [simp] Tryz.underlying15
attribute [simp] Tryz.underlying16
attribute [simp] Tryz.underlying17
attribute [simp] Tryz.underlying18
attribute [simp] Tryz.underlying19
attribute [simp] Tryz.underlying20
attribute [simp] Tryz.underlying21
attribute [simp] Tryz.underlying22
attribute [simp] Tryz.underlying23
attribute [simp] Tryz.underlying24
attribute [simp] Tryz.underlying25
attribute [simp] Tryz.underlying26
attribute [simp] Tryz.underlying27
attribute [simp] Tryz.underlying28
attribute [simp] Tryz.underlying29
attribute [simp] Tryz.underlying30
attribute [simp] Tryz.underlying31
attribute [simp] Tryz.underlying32
attribute [simp] Tryz.underlying33
@[simp] theorem zzE:Tryz.prog.cellsOf 34=1:=by kernel_rfl
attribute [simp] Tryz.underlying34
attribute [simp] Tryz.underlying35
attribute [simp] Tryz.underlying36
attribute [simp] Tryz.underlying37
attribute [simp] Tryz.underlying38
attribute [simp] Tryz.underlying39
attribute [simp] Tryz.underlying40
attribute [simp] Tryz.underlying41
attribute [simp] Tryz.underlying42
attribute [simp] Tryz.underlying43
attribute [simp] Tryz.underlying44
attribute [simp] Tryz.underlying45
attribute [simp] Tryz.underlying46
attribute [simp] Tryz.underlying47
attribute [simp] Tryz.underlying48
attribute [simp] Tryz.underlying49
attribute [simp] Tryz.underlying50
attribute [simp] Tryz.underlying51
attribute [simp] Tryz.underlying52
attribute [simp] Tryz.underlying53
attribute [simp] Tryz.underlying54
attribute [simp] Tryz.underlying55
attribute [simp] Tryz.underlying56
attribute [simp] Tryz.underlying57
attribute [simp] Tryz.underlying58
attribute [simp] Tryz.underlying59
attribute [simp] Tryz.underlying60
attribute [simp] Tryz.underlying61
@[simp] theorem zzF:Tryz.prog.cellsOf 62=1:=by kernel_rfl
attribute [simp] Tryz.underlying62
attribute [simp] Tryz.underlying63
attribute [simp] Tryz.underlying64
attribute [simp] Tryz.underlying65
attribute [simp] Tryz.underlying66
attribute [simp] Tryz.underlying67
attribute [simp] Tryz.underlying68
attribute [simp] Tryz.underlying69
attribute [simp] Tryz.underlying70
attribute [simp] Tryz.underlying71
attribute [simp] Tryz.underlying72
attribute [simp] Tryz.underlying73
attribute [simp] Tryz.underlying74
attribute [simp] Tryz.underlying75
attribute [simp] Tryz.underlying76
attribute [simp] Tryz.underlying77
attribute [simp] Tryz.underlying78
attribute [simp] Tryz.underlying79
attribute [simp] Tryz.underlying80
attribute [simp] Tryz.underlying81
attribute [simp] Tryz.underlying82
attribute [simp] Tryz.underlying83
attribute [simp] Tryz.underlying84
attribute [simp] Tryz.underlying85
attribute [simp] Tryz.underlying86
attribute [simp] Tryz.underlying87
attribute [simp] Tryz.underlying88
attribute [simp] Tryz.underlying89
attribute [simp] Tryz.underlying90
attribute [simp] Tryz.underlying91
attribute [simp] Tryz.underlying92
attribute [simp] Tryz.underlying93
@[simp] theorem zzG:Tryz.prog.cellsOf 94=1:=by kernel_rfl
attribute [simp] Tryz.underlying94
attribute [simp] Tryz.underlying95
@[simp] theorem zzH:Tryz.prog.cellsOf 96=3:=by kernel_rfl
attribute [simp] Tryz.underlying96
attribute [simp] Tryz.underlying97
attribute [simp] Tryz.underlying98
attribute [simp] Tryz.underlying99
attribute [simp] Tryz.underlying100
attribute [simp] Tryz.underlying101
attribute [simp] Tryz.underlying102
attribute [simp] Tryz.underlying103
attribute [simp] Tryz.underlying104
attribute [simp] Tryz.underlying105
attribute [simp] Tryz.underlying106
attribute [simp] Tryz.underlying107
attribute [simp] Tryz.underlying108
attribute [simp] Tryz.underlying109
attribute [simp] Tryz.underlying110
attribute [simp] Tryz.underlying111
attribute [simp] Tryz.underlying112
attribute [simp] Tryz.underlying113
attribute [simp] Tryz.underlying114
attribute [simp] Tryz.underlying115
attribute [simp] Tryz.underlying116
attribute [simp] Tryz.underlying117
attribute [simp] Tryz.underlying118
attribute [simp] Tryz.underlying119
attribute [simp] Tryz.underlying120
attribute [simp] Tryz.underlying121
attribute [simp] Tryz.underlying122
attribute [simp] Tryz.underlying123
attribute [simp] Tryz.underlying124
attribute [simp] Tryz.underlying125
attribute [simp] Tryz.underlying126
attribute [simp] Tryz.underlying127
attribute [simp] Tryz.underlying128
attribute [simp] Tryz.underlying129
attribute [simp] Tryz.underlying130
attribute [simp] Tryz.underlying131
attribute [simp] Tryz.underlying132
attribute [simp] Tryz.underlying133
attribute [simp] Tryz.underlying134
attribute [simp] Tryz.underlying135
attribute [simp] Tryz.underlying136
attribute [simp] Tryz.underlying137
attribute [simp] Tryz.underlying138
attribute [simp] Tryz.underlying139
attribute [simp] Tryz.underlying140
attribute [simp] Tryz.underlying141
attribute [simp] Tryz.underlying142
attribute [simp] Tryz.underlying143
attribute [simp] Tryz.underlying144
attribute [simp] Tryz.underlying145
attribute [simp] Tryz.underlying146
attribute [simp] Tryz.underlying147
attribute [simp] Tryz.underlying148
attribute [simp] Tryz.underlying149
attribute [simp] Tryz.underlying150
attribute [simp] Tryz.underlying151
attribute [simp] Tryz.underlying152
attribute [simp] Tryz.underlying153
attribute [simp] Tryz.underlying154
attribute [simp] Tryz.underlying155
attribute [simp] Tryz.underlying156
attribute [simp] Tryz.underlying157
attribute [simp] Tryz.underlying158
attribute [simp] Tryz.underlying159
attribute [simp] Tryz.underlying160
attribute [simp] Tryz.underlying161
attribute [simp] Tryz.underlying162
attribute [simp] Tryz.underlying163
attribute [simp] Tryz.underlying164
attribute [simp] Tryz.underlying165
attribute [simp] Tryz.underlying166
attribute [simp] Tryz.underlying167
attribute [simp] Tryz.underlying168
attribute [simp] Tryz.underlying169
attribute [simp] Tryz.underlying170
attribute [simp] Tryz.underlying171
attribute [simp] Tryz.underlying172
attribute [simp] Tryz.underlying173
attribute [simp] Tryz.underlying174
attribute [simp] Tryz.underlying175
attribute [simp] Tryz.underlying176
attribute [simp] Tryz.underlying177
attribute [simp] Tryz.underlying178
attribute [simp] Tryz.underlying179
attribute [simp] Tryz.underlying180
attribute [simp] Tryz.underlying181
attribute [simp] Tryz.underlying182
attribute [simp] Tryz.underlying183
attribute [simp] Tryz.underlying184
attribute [simp] Tryz.underlying185
attribute [simp] Tryz.underlying186
attribute [simp] Tryz.underlying187
attribute [simp] Tryz.underlying188
attribute [simp] Tryz.underlying189
attribute [simp] Tryz.underlying190
attribute [simp] Tryz.underlying191
attribute [simp] Tryz.underlying192
attribute [simp] Tryz.underlying193
attribute [simp] Tryz.underlying194
attribute [simp] Tryz.underlying195
attribute [simp] Tryz.underlying196
attribute [simp] Tryz.underlying197
attribute [simp] Tryz.underlying198
attribute [simp] Tryz.underlying199
attribute [simp] Tryz.underlying200
attribute [simp] Tryz.underlying201
attribute [simp] Tryz.underlying202
attribute [simp] Tryz.underlying203
attribute [simp] Tryz.underlying204
attribute [simp] Tryz.underlying205
attribute [simp] Tryz.underlying206
attribute [simp] Tryz.underlying207
attribute [simp] Tryz.underlying208
attribute [simp] Tryz.underlying209
attribute [simp] Tryz.underlying210
attribute [simp] Tryz.underlying211
attribute [simp] Tryz.underlying212
attribute [simp] Tryz.underlying213
attribute [simp] Tryz.underlying214
attribute [simp] Tryz.underlying215
attribute [simp] Tryz.underlying216
attribute [simp] Tryz.underlying217
attribute [simp] Tryz.underlying218
attribute [simp] Tryz.underlying219
attribute [simp] Tryz.underlying220
attribute [simp] Tryz.underlying221
attribute [simp] Tryz.underlying222
attribute [simp] Tryz.underlying223
attribute [simp] Tryz.underlying224
attribute [simp] Tryz.underlying225
attribute [simp] Tryz.underlying226
attribute [simp] Tryz.underlying227
attribute [simp] Tryz.underlying228
attribute [simp] Tryz.underlying229
attribute [simp] Tryz.underlying230
attribute [simp] Tryz.underlying231
attribute [simp] Tryz.underlying232
attribute [simp] Tryz.underlying233
attribute [simp] Tryz.underlying234
attribute [simp] Tryz.underlying235
attribute [simp] Tryz.underlying236
attribute [simp] Tryz.underlying237
attribute [simp] Tryz.underlying238
attribute [simp] Tryz.underlying239
attribute [simp] Tryz.underlying240
attribute [simp] Tryz.underlying241
attribute [simp] Tryz.underlying242
attribute [simp] Tryz.underlying243
attribute [simp] Tryz.underlying244
attribute [simp] Tryz.underlying245
attribute [simp] Tryz.underlying246
attribute [simp] Tryz.underlying247
attribute [simp] Tryz.underlying248
attribute [simp] Tryz.underlying249
attribute [simp] Tryz.underlying250
attribute [simp] Tryz.underlying251
attribute [simp] Tryz.underlying252
attribute [simp] Tryz.underlying253
attribute [simp] Tryz.underlying254
attribute [simp] Tryz.underlying255
attribute [simp] Tryz.underlying256
attribute [simp] Tryz.underlying257
attribute [simp] Tryz.underlying258
attribute [simp] Tryz.underlying259
attribute [simp] Tryz.underlying260
attribute [simp] Tryz.underlying261
attribute [simp] Tryz.underlying262
attribute [simp] Tryz.underlying263
attribute [simp] Tryz.underlying264
@[simp] theorem zza:Tryz.prog.cellsOf 265=2:=by kernel_rfl
attribute [simp] Tryz.underlying265
attribute [simp] Tryz.underlying266
attribute [simp] Tryz.underlying267
attribute [simp] Tryz.underlying268
attribute [simp] Tryz.underlying269
attribute [simp] Tryz.underlying270
attribute [simp] Tryz.underlying271
attribute [simp] Tryz.underlying272
attribute [simp] Tryz.underlying273
attribute [simp] Tryz.underlying274
attribute [simp] Tryz.underlying275
attribute [simp] Tryz.underlying276
attribute [simp] Tryz.underlying277
attribute [simp] Tryz.underlying278
attribute [simp] Tryz.underlying279
attribute [simp] Tryz.underlying280
attribute [simp] Tryz.underlying281
attribute [simp] Tryz.underlying282
attribute [simp] Tryz.underlying283
attribute [simp] Tryz.underlying284
attribute [simp] Tryz.underlying285
attribute [simp] Tryz.underlying286
attribute [simp] Tryz.underlying287
attribute [simp] Tryz.underlying288
attribute [simp] Tryz.underlying289
attribute [simp] Tryz.underlying290
attribute [simp] Tryz.underlying291
attribute [simp] Tryz.underlying292
attribute [simp] Tryz.underlying293
attribute [simp] Tryz.underlying294
attribute [simp] Tryz.underlying295
attribute [simp] Tryz.underlying296
attribute [simp] Tryz.underlying297
attribute [simp] Tryz.underlying298
attribute [simp] Tryz.underlying299
attribute [simp] Tryz.underlying300
attribute [simp] Tryz.underlying301
attribute [simp] Tryz.underlying302
attribute [simp] Tryz.underlying303
attribute [simp] Tryz.underlying304
attribute [simp] Tryz.underlying305
attribute [simp] Tryz.underlying306
attribute [simp] Tryz.underlying307
attribute [simp] Tryz.underlying308
attribute [simp] Tryz.underlying309
attribute [simp] Tryz.underlying310
attribute [simp] Tryz.underlying311
attribute [simp] Tryz.underlying312
attribute [simp] Tryz.underlying313
attribute [simp] Tryz.underlying314
attribute [simp] Tryz.underlying315
attribute [simp] Tryz.underlying316
attribute [simp] Tryz.underlying317
attribute [simp] Tryz.underlying318
attribute [simp] Tryz.underlying319
attribute [simp] Tryz.underlying320
attribute [simp] Tryz.underlying321
attribute [simp] Tryz.underlying322
attribute [simp] Tryz.underlying323
attribute [simp] Tryz.underlying324
attribute [simp] Tryz.underlying325
attribute [simp] Tryz.underlying326
attribute [simp] Tryz.underlying327
attribute [simp] Tryz.underlying328
attribute [simp] Tryz.underlying329
attribute [simp] Tryz.underlying330
attribute [simp] Tryz.underlying331
attribute [simp] Tryz.underlying332
attribute [simp] Tryz.underlying333
attribute [simp] Tryz.underlying334
attribute [simp] Tryz.underlying335
attribute [simp] Tryz.underlying336
attribute [simp] Tryz.underlying337
attribute [simp] Tryz.underlying338
attribute [simp] Tryz.underlying339
attribute [simp] Tryz.underlying340
attribute [simp] Tryz.underlying341
attribute [simp] Tryz.underlying342
attribute [simp] Tryz.underlying343
attribute [simp] Tryz.underlying344
attribute [simp] Tryz.underlying345
attribute [simp] Tryz.underlying346
attribute [simp] Tryz.underlying347
attribute [simp] Tryz.underlying348
attribute [simp] Tryz.underlying349
attribute [simp] Tryz.underlying350
attribute [simp] Tryz.underlying351
attribute [simp] Tryz.underlying352
attribute [simp] Tryz.underlying353
attribute [simp] Tryz.underlying354
attribute [simp] Tryz.underlying355
attribute [simp] Tryz.underlying356
attribute [simp] Tryz.underlying357
attribute [simp] Tryz.underlying358
attribute [simp] Tryz.underlying359
attribute [simp] Tryz.underlying360
attribute [simp] Tryz.underlying361
attribute [simp] Tryz.underlying362
attribute [simp] Tryz.underlying363
attribute [simp] Tryz.underlying364
attribute [simp] Tryz.underlying365
attribute [simp] Tryz.underlying366
set_option maxRecDepth 100000
theorem eB8:za3 Tryz.prog 34 5 1 1:=zaW (by rfl)
theorem zxE:za3 Tryz.prog 55 4 1 1:=zaW (by rfl)
theorem zu6:za3 Tryz.prog 63 34 1 24:=zaW (by kernel_rfl)
theorem zBW:za3 Tryz.prog 22 57 6 96:=zaW (by kernel_rfl)
def zjo (l:List Bool):List Value:=l.map .bool
theorem zep (l:List Bool):(zjo l).length=l.length:=by simp[zjo]
theorem zue {l:List Bool} {i:Nat} (hi:i < l.length):(zjo l)[i]?= some (.bool l[i]):=by grind[zjo]
theorem zuf (a b:List Bool):zjo (a ++ b)=zjo a ++ zjo b:=by simp[zjo]
def zwj (p:Option Addr):Prop:=p=none\/∃b off,p=some ⟨b,off,none⟩
def zdN (h:AH) (p:Option Addr) (n:Nat) (data:List Nat):Prop:=zwj p/\n=data.length/\n<=reachBytes/\zaz h p n 1 (za7 .u8 data)/\∀x∈data,x < 256
def zu7 (h:AH) (p:Option Addr) (n:Nat) (l:List Bool):Prop:=zwj p/\n=l.length/\n<=reachBytes/\zaz h p n 1 (zjo l)
theorem zdN.old {h h' : AH} {p:Option Addr} {n:Nat} {data:List Nat} (t:zdN h p n data) (o:Old h h'):zdN h' p n data:=⟨t.1,t.2.1,t.2.2.1,t.2.2.2.1.old o,t.2.2.2.2⟩
theorem zu7.old {h h' : AH} {p:Option Addr} {n:Nat} {l:List Bool} (t:zu7 h p n l) (o:Old h h'):zu7 h' p n l:=⟨t.1,t.2.1,t.2.2.1,t.2.2.2.old o⟩
def zwk (h:AH) (cs:List Value) (o:OpP):Prop:=∃pd nd cd pk nk ck,cs=[.int .i64 o.kind,.string o.name,.string o.to,.int .i64 o.n,.slice pd nd cd,.slice pk nk ck]/\zdN h pd nd o.data/\zu7 h pk nk o.keep/\o.name.size<=reachBytes/\o.to.size<=reachBytes
theorem zwk.old {h h' : AH} {cs:List Value} {o:OpP} (t:zwk h cs o) (k:Old h h'):zwk h' cs o:=by
 obtain⟨pd,nd,cd,pk,nk,ck,e,t1,t2,t3⟩:=t
 exact⟨pd,nd,cd,pk,nk,ck,e,t1.old k,t2.old k,t3⟩
def Ops (h:AH) (p:Option Addr) (n:Nat) (os:List OpP):Prop:=zwj p/\n=os.length/\n * 96<=reachBytes/\∃cells,zaz h p n 6 cells/\∀(i:Nat) (hi:i < os.length),zwk h ((cells.drop (i * 6)).take 6) os[i]
theorem Ops.old {h h' : AH} {p:Option Addr} {n:Nat} {os:List OpP} (t:Ops h p n os) (o:Old h h'):Ops h' p n os:=by
 obtain⟨t1,t2,t3,cells,t4,t5⟩:=t
 exact⟨t1,t2,t3,cells,t4.old o,by grind[zwk.old]⟩
theorem Ops.at {h:AH} {p:Option Addr} {n:Nat} {os:List OpP} (t:Ops h p n os) {i:Nat} (hi:i < n):∃b off,p=some ⟨b,off,none⟩/\∃(hi' : i < os.length),∃pd nd cd pk nk ck,
 ldN h b (off+i * 6) 6=some [.int .i64 os[i].kind,.string os[i].name,.string os[i].to,.int .i64 os[i].n,.slice pd nd cd,.slice pk nk ck]/\
 ld1 h b (off+i * 6)=some (.int .i64 os[i].kind)/\ld1 h b (off+i * 6+1)=some (.string os[i].name)/\ld1 h b (off+i * 6+2)=some (.string os[i].to)/\ld1 h b (off+i * 6+3)=some (.int .i64 os[i].n)/\ld1 h b (off+i * 6+4)=some (.slice pd nd cd)/\ld1 h b (off+i * 6+5)=some (.slice pk nk ck)/\
 zdN h pd nd os[i].data/\zu7 h pk nk os[i].keep/\os[i].name.size<=reachBytes/\os[i].to.size<=reachBytes/\b < h.next:=by
 obtain⟨t1,t2,t3,cells,t4,t5⟩:=t
 obtain⟨b,off,hp,hld,h1⟩:=t4.getN hi
 have hi' : i < os.length:=by omega
 obtain⟨pd,nd,cd,pk,nk,ck,e,t6,t7,t8,t9⟩:=t5 i hi'
 have hb:b < h.next:=by
  rcases t4.2 with z | ⟨b',off',al,e',ro,hp',hb', -⟩
  all_goals grind
 have ge:∀(j:Nat) (v:Value),j < 6->([Value.int .i64 os[i].kind,.string os[i].name,.string os[i].to,.int .i64 os[i].n,.slice pd nd cd,.slice pk nk ck]:List Value)[j]?= some v->ld1 h b (off+i * 6+j)=some v:=by grind
 exact⟨b,off,hp,hi',pd,nd,cd,pk,nk,ck,by grind,ge 0 _ (by omega) rfl,by grind,by grind,by grind,by grind,by grind,t6,t7,t8,t9,hb⟩
section
variable {h:AH}
end
abbrev zC:List Value:=[.int .u64 0,.string (ByteArray.mk #[]),.bool false,.int .u64 0,.int .u64 0,.int .u64 0,.int .i64 0,.int .i64 0,.int .u64 0,.int .u32 0,.slice none 0 0]
abbrev sC (a:Int) (b:ByteArray) (c:Bool) (d e f g i j k:Int) (l:Option Addr) (m n:Nat):List Value:=[.int .u64 a,.string b,.bool c,.int .u64 d,.int .u64 e,.int .u64 f,.int .i64 g,.int .i64 i,.int .u64 j,.int .u32 k,.slice l m n]
abbrev qL (a b c:Int):List Value:=[.int .i64 a,.int .u64 b,.int .u32 c]
abbrev bC (a:Int) (b:Option Addr) (c d:Nat):List Value:=[.int .u64 a,.slice b c d]
abbrev lI (h:AH) (b o:Nat) (Q:Int->Prop):Prop:=∃x,ld1 h b o=some (.int .i64 x)/\Q x
abbrev lU (h:AH) (b o:Nat) (Q:Int->Prop):Prop:=∃x,ld1 h b o=some (.int .u64 x)/\Q x
abbrev lS (h:AH) (b o:Nat) (Q:Option Addr->Nat->Nat->Prop):Prop:=∃x y z,ld1 h b o=some (.slice x y z)/\Q x y z
abbrev wI (e:Int) (Q:Int->Prop):Prop:=∀x:Int,x=IntKind.wrap .i64 e->Q x
abbrev aL (h:AH) (c:List Value) (e:Nat) (Q:AH->Prop):Prop:=∀x,x=h.alloc (.cells c e false)->Q x
abbrev sT (h:AH) (b o:Nat) (v:Value) (Q:AH->Prop):Prop:=∃x,st1 h b o v=some x/\Q x
abbrev Wt (K:Xs):FuncId->List Value->AH->(Value->AH->Prop)->Prop:=Wf Tryz.prog K
end Go.Am
