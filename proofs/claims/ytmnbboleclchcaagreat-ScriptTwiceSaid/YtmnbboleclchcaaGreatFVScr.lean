/-
  Texts of this proof, part 18. No condition.
-/
import Derived.Test.YtmnbboleclchcaaGreatFPFacts
import Derived.Test.YtmnbboleclchcaaGreatRows
set_option linter.unusedSimpArgs false
set_option linter.unusedVariables false
set_option maxRecDepth 100000
namespace Go.Am
open Go.Proofs
theorem zim {K:Xs} (hk:K 11=none) (a:Int) (b:Option Addr) (d e:Nat) (h:AH) (Q:Value->AH->Prop) (H:
 aL h [.int .i64 a,.slice b d e] 24 λf=>lI f h.next 0 λg=>((g < 64->Q (.bool false) f)/\
 (¬g < 64->lI f h.next 0 λi=>(((1024:Int) < i->Q (.bool false) f)/\
 (¬(1024:Int) < i->lS f h.next 1 λj k l=>(((200:Int) < (k:Int)->Q (.bool false) f)/\
 (¬(200:Int) < (k:Int)->lS f h.next 1 λm o p=>(∃q:Int->Nat->AH->Prop,(∃n,q 0 n f)/\
 ∀(r:Nat) (s:AH),∀(t:Int),q t r s->
 (t < (o:Int)->lS s h.next 1 λu v w=>(zag u λx y=>(0<=t/\t < (v:Int)/\
 (Wt K 22 [(.pointer (some ⟨x,(y+t.toNat * 6),none⟩))] s λz aa=>
 (((z=(.bool true)/\
 (wI (t+1) λab=>∃ac,ac < r/\q ab ac aa))\/(z=(.bool false)/\
 (Q (.bool false) aa))))))))/\
 (¬t < (o:Int)->Q (.bool true) s))))))))):
 Wt K 11 [.agg #[.int .i64 a,.slice b d e]] h Q:=
  zaj (hs:=[(4,[(21,.int .i64 0)])]) hk (Eq.mpr (by kernel_rfl) H)
abbrev zdf (K:Xs) (Q:Value->AH->Prop) (s:AH) (ad:Nat) (ae:Nat) (af:AH) (ag:Option Addr):Prop:=
 (lS s ad (ae+4) λah ai aj=>(((ai:Int)<=129->((ld1 s af.next 4=some (.bool true)/\
 (zag ag λak al=>(lS s ak (al+5) λam an ao=>(((an:Int)<=64->Q (.bool true) s)/\
 (¬(an:Int)<=64->Q (.bool false) s)))))\/(ld1 s af.next 4=some (.bool false)/\
 (zag ag λap aq=>(lS s ap (aq+5) λar au av=>(((au:Int)=0->zag ag λaw ax=>(lS s aw (ax+5) λay az a0=>(((az:Int)<=64->Q (.bool true) s)/\
 (¬(az:Int)<=64->Q (.bool false) s))))/\
 (¬(au:Int)=0->Q (.bool false) s)))))))/\
 (¬(ai:Int)<=129->Q (.bool false) s)))
abbrev zdg (K:Xs) (Q:Value->AH->Prop) (s:AH) (a1:Nat) (a2:Nat) (ag:Option Addr) (af:AH):Prop:=
 (lI s a1 (a2+3) λa3=>((-1<=a3->zag ag λa4 a5=>(lI s a4 (a5+3) λa6=>((a6<=65534->((ld1 s af.next 3=some (.bool true)/\
 (zag ag λad ae=>(zdf K Q s ad ae af ag)))\/(ld1 s af.next 3=some (.bool false)/\
 (zag ag λa7 a8=>(lS s a7 (a8+4) λa9 ba bb=>(((ba:Int)=0->zag ag λbc bd=>(zdf K Q s bc bd af ag))/\
 (¬(ba:Int)=0->Q (.bool false) s)))))))/\
 (¬a6<=65534->Q (.bool false) s))))/\
 (¬-1<=a3->Q (.bool false) s)))
abbrev zdh (K:Xs) (Q:Value->AH->Prop) (s:AH) (be:Nat) (bf:Nat) (af:AH) (ag:Option Addr):Prop:=
 (∃bg,ld1 s be (bf+2)=some (.string bg)/\
 (((bg.size:Int)<=60->((ld1 s af.next 2=some (.bool true)/\
 (zag ag λa1 a2=>(zdg K Q s a1 a2 ag af)))\/(ld1 s af.next 2=some (.bool false)/\
 (zag ag λbh bi=>(lI s bh (bi+3) λbj=>((bj=0->zag ag λbk bl=>(zdg K Q s bk bl ag af))/\
 (¬bj=0->Q (.bool false) s)))))))/\
 (¬(bg.size:Int)<=60->Q (.bool false) s)))
abbrev zdi (K:Xs) (Q:Value->AH->Prop) (s:AH) (bm:Nat) (bn:Nat) (af:AH) (ag:Option Addr):Prop:=
 (∃bo,ld1 s bm (bn+1)=some (.string bo)/\
 (((bo.size:Int)<=60->((ld1 s af.next 1=some (.bool true)/\
 (zag ag λbe bf=>(zdh K Q s be bf af ag)))\/(ld1 s af.next 1=some (.bool false)/\
 (zag ag λbp bq=>(∃br,ld1 s bp (bq+2)=some (.string br)/\
 ((br=(ByteArray.mk #[])->zag ag λbs bt=>(zdh K Q s bs bt af ag))/\
 (¬br=(ByteArray.mk #[])->Q (.bool false) s)))))))/\
 (¬(bo.size:Int)<=60->Q (.bool false) s)))
theorem zga {K:Xs} (hk:K 22=none) (a:Option Addr) (b:AH) (Q:Value->AH->Prop) (H:
 zag a λd e=>(lI b d e λf=>(Wt K 40 [.int .i64 f] b λg i=>
 (∃j k l m n,((g=(.tuple #[.agg #[.bool j,.bool k,.bool l,.bool m,.bool n],.bool true])/\
 (aL i [.bool false,.bool false,.bool false,.bool false,.bool false] 112 λo=>(5=5)/\∃p,stN o i.next 0 [.bool j,.bool k,.bool l,.bool m,.bool n]=some p/\
 (((ld1 p i.next 0=some (.bool true)/\
 (zag a λq r=>(zdi K Q p q r i a)))\/(ld1 p i.next 0=some (.bool false)/\
 (zag a λs t=>(∃u,ld1 p s (t+1)=some (.string u)/\
 ((u=(ByteArray.mk #[])->zag a λv w=>(zdi K Q p v w i a))/\
 (¬u=(ByteArray.mk #[])->Q (.bool false) p)))))))))\/(g=(.tuple #[.agg #[.bool j,.bool k,.bool l,.bool m,.bool n],.bool false])/\
 (aL i [.bool false,.bool false,.bool false,.bool false,.bool false] 112 λx=>(5=5)/\∃y,stN x i.next 0 [.bool j,.bool k,.bool l,.bool m,.bool n]=some y/\
 (Q (.bool false) y)))))))):
 Wt K 22 [.pointer a] b Q:=
  zaj (hs:=[]) hk (Eq.mpr (by kernel_rfl) H)
abbrev zaB (K:Xs) (Q:Value->AH->Prop) (i:AH) (z:AH) (b:AH):Prop:=
 (∃j k l m n,ldN i z.next 0 5=some [.bool j,.bool k,.bool l,.bool m,.bool n]/\
 ((5=5)/\∃o,stN i b.next 0 [.bool j,.bool k,.bool l,.bool m,.bool n]=some o/\
 (∃aa q ab ac ad,ldN o b.next 0 5=some [.bool aa,.bool q,.bool ab,.bool ac,.bool ad]/\
 (Q (.tuple #[.agg #[.bool aa,.bool q,.bool ab,.bool ac,.bool ad],.bool true]) o))))
theorem zgb {K:Xs} (hk:K 40=none) (a:Int) (b:AH) (Q:Value->AH->Prop) (H:
 aL b [.bool false,.bool false,.bool false,.bool false,.bool false] 112 λd=>aL d [.bool false,.bool false,.bool false,.bool false,.bool false] 112 λe=>(a=1->sT e d.next 3 (.bool true) λf=>(sT f d.next 0 (.bool true) λg=>(sT g d.next 2 (.bool true) λi=>(zaB K Q i d b))))/\
 (¬a=1->(a=0->sT e d.next 0 (.bool true) λj=>(sT j d.next 2 (.bool true) λk=>(zaB K Q k d b)))/\
 (¬a=0->(a=2->sT e d.next 0 (.bool true) λl=>(sT l d.next 2 (.bool true) λm=>(zaB K Q m d b)))/\
 (¬a=2->(a=3->sT e d.next 0 (.bool true) λn=>(sT n d.next 2 (.bool true) λo=>(zaB K Q o d b)))/\
 (¬a=3->(a=4->sT e d.next 0 (.bool true) λp=>(zaB K Q p d b))/\
 (¬a=4->(a=6->sT e d.next 0 (.bool true) λq=>(zaB K Q q d b))/\
 (¬a=6->(a=7->sT e d.next 0 (.bool true) λr=>(zaB K Q r d b))/\
 (¬a=7->(a=8->sT e d.next 0 (.bool true) λs=>(zaB K Q s d b))/\
 (¬a=8->(a=5->sT e d.next 0 (.bool true) λt=>(sT t d.next 1 (.bool true) λu=>(zaB K Q u d b)))/\
 (¬a=5->(a=9->∃v w x y z,ldN e d.next 0 5=some [.bool v,.bool w,.bool x,.bool y,.bool z]/\
 ((5=5)/\∃aa,stN e b.next 0 [.bool v,.bool w,.bool x,.bool y,.bool z]=some aa/\
 (∃ab ac ad ae af,ldN aa b.next 0 5=some [.bool ab,.bool ac,.bool ad,.bool ae,.bool af]/\
 (Q (.tuple #[.agg #[.bool ab,.bool ac,.bool ad,.bool ae,.bool af],.bool true]) aa))))/\
 (¬a=9->(a=10->sT e d.next 2 (.bool true) λag=>(zaB K Q ag d b))/\
 (¬a=10->(a=11->sT e d.next 4 (.bool true) λah=>(zaB K Q ah d b))/\
 (¬a=11->(a=12->sT e d.next 2 (.bool true) λai=>(sT ai d.next 3 (.bool true) λaj=>(zaB K Q aj d b)))/\
 (¬a=12->(5=5)/\∃ak,stN e b.next 0 [.bool false,.bool false,.bool false,.bool false,.bool false]=some ak/\
 (∃al am an ao ap,ldN ak b.next 0 5=some [.bool al,.bool am,.bool an,.bool ao,.bool ap]/\
 (Q (.tuple #[.agg #[.bool al,.bool am,.bool an,.bool ao,.bool ap],.bool false]) ak)))))))))))))))):
 Wt K 40 [.int .i64 a] b Q:=
  zaj (hs:=[]) hk (Eq.mpr (by kernel_rfl) H)
theorem zin {K:Xs} (hk:K 8=none) (a:Int) (b:Option Addr) (d e:Nat) (h:AH) (Q:Value->AH->Prop) (H:
 aL h [.int .i64 a,.slice b d e] 24 λf=>∃g i j k,ldN f h.next 0 2=some [.int .i64 g,.slice i j k]/\
 (Wt K 11 [.agg #[.int .i64 g,.slice i j k]] f λl m=>
 (((l=(.bool true)/\
 (aL m [.int .i64 2] 3 λo=>lI o h.next 0 λp=>(∀q:Int,q=IntKind.wrap .u64 p->aL o [.int .u64 q] 62 λr=>Wt K 18 [(.slice (some ⟨m.next,0,none⟩) 1 1),(.slice (some ⟨o.next,0,none⟩) 1 1)] r λs t=>
 (∃u v w x,s=(.tuple #[.slice u v w,.int .i64 x])/\
 ((x=0->aL t [.slice u v w] 34 λy=>lS y h.next 1 λz aa ab=>(∃ac:Option Addr->Nat->Nat->Int->Nat->AH->Prop,(∃n,ac (some ⟨t.next,0,none⟩) 1 1 0 n y)/\
 ∀(ad:Nat) (ae:AH),∀(af:Option Addr) (ag:Nat) (ah:Nat),∀(ai:Int),ac af ag ah ai ad ae->
 (ai < (aa:Int)->lS ae h.next 1 λaj ak al=>(zag aj λam an=>(0<=ai/\ai < (ak:Int)/\
 (Wt K 19 [(.pointer (some ⟨am,(an+ai.toNat * 6),none⟩))] ae λao ap=>
 (∃aq ar au av,ao=(.tuple #[.slice aq ar au,.int .i64 av])/\
 ((av=0->aL ap [.slice aq ar au] 34 λaw=>∃ax ay az a0,zak Tryz.prog aw .append #[63,63] [.slice af ag ah,(.slice (some ⟨ap.next,0,none⟩) 1 1)]=some (.slice ax ay az,a0)/\
 (wI (ai+1) λa1=>∃a2,a2 < ad/\ac ax ay az a1 a2 a0))/\
 (¬av=0->Q (.tuple #[.slice none 0 0,.int .i64 231]) ap)))))))/\
 (¬ai < (aa:Int)->Wt K 20 [.slice af ag ah] ae λa3 a4=>
 (∃a5 a6 a7 a8,a3=(.tuple #[.slice a5 a6 a7,.int .i64 a8])/\
 ((a8=0->Q (.tuple #[.slice a5 a6 a7,.int .i64 0]) a4)/\
 (¬a8=0->Q (.tuple #[.slice none 0 0,.int .i64 231]) a4))))))/\
 (¬x=0->Q (.tuple #[.slice none 0 0,.int .i64 231]) t))))))\/(l=(.bool false)/\
 (Q (.tuple #[.slice none 0 0,.int .i64 231]) m)))))):
 Wt K 8 [.agg #[.int .i64 a,.slice b d e]] h Q:=
  zaj (hs:=[(8,[(6,.slice none 0 0),(30,.int .i64 0)])]) hk (Eq.mpr (by kernel_rfl) H)
abbrev zdj (K:Xs) (Q:Value->AH->Prop) (a9:Value) (ba:Option Addr) (bb:AH):Prop:=
 (∃bc bd be bf,a9=(.tuple #[.slice bc bd be,.int .i64 bf])/\
 ((bf=0->zag ba λbg bh=>(lS bb bg (bh+5) λbi bj bk=>(((0:Int)<=(bj:Int)/\(bj:Int)<=(bj:Int)/\(bj:Int)<=9223372036854775807/\(1:Int) * (bj:Int)<=281474976710656)/\∀bl,bl=bb.alloc (.cells ((List.replicate (Int.toNat (bj:Int)) [.int .u8 0]).flatten) 5 false)->
 zag ba λbm bn=>(lS bl bm (bn+5) λbo bp bq=>(∃br:Int->Nat->AH->Prop,(∃n,br 0 n bl)/\
 ∀(bs:Nat) (bt:AH),∀(bu:Int),br bu bs bt->
 (bu < (bp:Int)->zag bo λbv bw=>(0<=bu/\bu < (bp:Int)/\
 (((ld1 bt bv (bw+bu.toNat * 1)=some (.bool true)/\
 ((0<=bu)/\(bu < (((Int.toNat (bj:Int)):Nat):Int))/\
 (sT bt bb.next (0+bu.toNat * 1) (.int .u8 1) λbx=>(wI (bu+1) λbz=>∃b0,b0 < bs/\br bz b0 bx))))\/(ld1 bt bv (bw+bu.toNat * 1)=some (.bool false)/\
 (wI (bu+1) λav=>∃b0,b0 < bs/\br av b0 bt))))))/\
 (¬bu < (bp:Int)->zag ba λb1 b2=>(∃b3,ld1 bt b1 (b2+1)=some (.string b3)/\
 (zag ba λb4 b5=>(∃b6,ld1 bt b4 (b5+2)=some (.string b6)/\
 (zag ba λb7 b8=>(lS bt b7 (b8+4) λa5 a6 a7=>(∃b9 da db dc,zav Tryz.prog bt 9 34 (.string b3)=some (.slice b9 da db,dc)/\
 (∃dd de df dg,zav Tryz.prog dc 9 34 (.string b6)=some (.slice dd de df,dg)/\
 (aL dg [.slice bc bd be,.slice b9 da db,.slice dd de df,.slice a5 a6 a7,(.slice (some ⟨bb.next,0,none⟩) (Int.toNat (bj:Int)) (Int.toNat (bj:Int)))] 34 λdh=>Wt K 20 [(.slice (some ⟨dg.next,0,none⟩) 5 5)] dh λdi dj=>
 (∃dk dl dm dn,di=(.tuple #[.slice dk dl dm,.int .i64 dn])/\
 (Q (.tuple #[.slice dk dl dm,.int .i64 dn]) dj))))))))))))))))/\
 (¬bf=0->Q (.tuple #[.slice none 0 0,.int .i64 bf]) bb)))
theorem zgc {K:Xs} (hk:K 19=none) (a:Option Addr) (b:AH) (Q:Value->AH->Prop) (H:
 zag a λd e=>(lI b d (e+3) λf=>((0<=f->zag a λg i=>(lI b g (i+3) λj=>(∀k:Int,k=IntKind.wrap .u64 j->aL b [.int .i64 1,.int .i64 2] 3 λl=>zag a λm n=>(lI l m n λo=>(∀p:Int,p=IntKind.wrap .u64 o->aL l [.int .u64 p,.int .u64 k] 62 λq=>Wt K 18 [(.slice (some ⟨b.next,0,none⟩) 2 2),(.slice (some ⟨l.next,0,none⟩) 2 2)] q λr s=>
 (zdj K Q r a s))))))/\
 (¬0<=f->aL b [.int .i64 1,.int .i64 2] 3 λt=>zag a λu v=>(lI t u v λw=>(∀x:Int,x=IntKind.wrap .u64 w->aL t [.int .u64 x,.int .u64 65535] 62 λy=>Wt K 18 [(.slice (some ⟨b.next,0,none⟩) 2 2),(.slice (some ⟨t.next,0,none⟩) 2 2)] y λz aa=>
 (zdj K Q z a aa))))))):
 Wt K 19 [.pointer a] b Q:=
  zaj (hs:=[(9,[(46,.int .i64 0)])]) hk (Eq.mpr (by kernel_rfl) H)
theorem zjp {K:Xs} (hk:K 12=none) (a:Option Addr) (b d:Nat) (h:AH) (Q:Value->AH->Prop) (H:
 aL h [.int .i64 0,.slice none 0 0] 24 λe=>Wt K 23 [.slice a b d] e λf g=>
 (∃i j k l,f=(.tuple #[.slice i j k,.int .i64 l])/\
 ((l=0->((j:Int) < 1->(2=2)/\∃m,stN g h.next 0 [.int .i64 0,.slice none 0 0]=some m/\
 (∃o p q r,ldN m h.next 0 2=some [.int .i64 o,.slice p q r]/\
 (Q (.tuple #[.agg #[.int .i64 o,.slice p q r],.int .i64 231]) m)))/\
 (¬(j:Int) < 1->((201:Int) < (j:Int)->(2=2)/\∃s,stN g h.next 0 [.int .i64 0,.slice none 0 0]=some s/\
 (∃t u v w,ldN s h.next 0 2=some [.int .i64 t,.slice u v w]/\
 (Q (.tuple #[.agg #[.int .i64 t,.slice u v w],.int .i64 231]) s)))/\
 (¬(201:Int) < (j:Int)->aL g [.int .i64 2] 3 λx=>zag i λy z=>(((0:Int)<=0)/\((0:Int) < (j:Int))/\
 (lS x y z λaa ab ac=>(Wt K 24 [(.slice (some ⟨g.next,0,none⟩) 1 1),.slice aa ab ac] x λad ae=>
 (∃af ag ah ai,ad=(.tuple #[.slice af ag ah,.int .i64 ai])/\
 ((ai=0->zag af λaj ak=>(((0:Int)<=0)/\((0:Int) < (ag:Int))/\
 (lU ae aj ak λal=>(wI al λam=>aL ae [.int .i64 0,.slice none 0 0] 24 λan=>(2=2)/\∃ao,stN an ae.next 0 [.int .i64 am,.slice none 0 0]=some ao/\
 (∃ap aq ar,zay Tryz.prog ao 63 (.slice i j k) (some (.int .i64 1)) none none=some (.slice ap aq ar)/\
 (∃au:Int->Nat->AH->Prop,(∃n,au 0 n ao)/\
 ∀(av:Nat) (aw:AH),∀(ax:Int),au ax av aw->
 (ax < (aq:Int)->zag ap λay az=>(0<=ax/\ax < (aq:Int)/\
 (lS aw ay (az+ax.toNat * 1) λa0 a1 a2=>(Wt K 25 [.slice a0 a1 a2] aw λa3 a4=>
 (∃a5 a6 a7 a8 a9 ba bb bc bd be bf,a3=(.tuple #[.agg #[.int .i64 a5,.string a6,.string a7,.int .i64 a8,.slice a9 ba bb,.slice bc bd be],.int .i64 bf])/\
 (∀bg,bg=a4.alloc (.cells [.int .i64 0,(.string (ByteArray.mk #[])),(.string (ByteArray.mk #[])),.int .i64 0,.slice none 0 0,.slice none 0 0] 57 false)->
 (6=6)/\∃bh,stN bg a4.next 0 [.int .i64 a5,.string a6,.string a7,.int .i64 a8,.slice a9 ba bb,.slice bc bd be]=some bh/\
 ((bf=0->lS bh ae.next 1 λbi bj bk=>(∃bl bm bn bo bp bq br bs bt bu,ldN bh a4.next 0 6=some [.int .i64 bl,.string bm,.string bn,.int .i64 bo,.slice bp bq br,.slice bs bt bu]/\
 (aL bh [.int .i64 bl,.string bm,.string bn,.int .i64 bo,.slice bp bq br,.slice bs bt bu] 57 λbv=>∃bw bx bz b0,zak Tryz.prog bv .append #[22,22] [.slice bi bj bk,(.slice (some ⟨bh.next,0,none⟩) 1 1)]=some (.slice bw bx bz,b0)/\
 (sT b0 ae.next 1 (.slice bw bx bz) λb1=>(wI (ax+1) λb2=>∃b3,b3 < av/\au b2 b3 b1)))))/\
 (¬bf=0->(2=2)/\∃b4,stN bh h.next 0 [.int .i64 0,.slice none 0 0]=some b4/\
 (∃b5 b6 b7 b8,ldN b4 h.next 0 2=some [.int .i64 b5,.slice b6 b7 b8]/\
 (Q (.tuple #[.agg #[.int .i64 b5,.slice b6 b7 b8],.int .i64 231]) b4))))))))))/\
 (¬ax < (aq:Int)->∃b9 da db dc,ldN aw ae.next 0 2=some [.int .i64 b9,.slice da db dc]/\
 (Wt K 8 [.agg #[.int .i64 b9,.slice da db dc]] aw λdd de=>
 (∃df dg dh di,dd=(.tuple #[.slice df dg dh,.int .i64 di])/\
 ((di=0->Wt K 26 [.slice df dg dh,.slice a b d] de λdj dk=>
 (((dj=(.bool true)/\
 (∃dl dm dn dp,ldN dk ae.next 0 2=some [.int .i64 dl,.slice dm dn dp]/\
 ((2=2)/\∃dq,stN dk h.next 0 [.int .i64 dl,.slice dm dn dp]=some dq/\
 (∃dr ds dt du,ldN dq h.next 0 2=some [.int .i64 dr,.slice ds dt du]/\
 (Q (.tuple #[.agg #[.int .i64 dr,.slice ds dt du],.int .i64 0]) dq)))))\/(dj=(.bool false)/\
 ((2=2)/\∃dv,stN dk h.next 0 [.int .i64 0,.slice none 0 0]=some dv/\
 (∃dw dx dy dz,ldN dv h.next 0 2=some [.int .i64 dw,.slice dx dy dz]/\
 (Q (.tuple #[.agg #[.int .i64 dw,.slice dx dy dz],.int .i64 231]) dv)))))))/\
 (¬di=0->(2=2)/\∃d0,stN de h.next 0 [.int .i64 0,.slice none 0 0]=some d0/\
 (∃d1 d2 d3 d4,ldN d0 h.next 0 2=some [.int .i64 d1,.slice d2 d3 d4]/\
 (Q (.tuple #[.agg #[.int .i64 d1,.slice d2 d3 d4],.int .i64 231]) d0)))))))))))))/\
 (¬ai=0->(2=2)/\∃d5,stN ae h.next 0 [.int .i64 0,.slice none 0 0]=some d5/\
 (∃d6 d7 d8 d9,ldN d5 h.next 0 2=some [.int .i64 d6,.slice d7 d8 d9]/\
 (Q (.tuple #[.agg #[.int .i64 d6,.slice d7 d8 d9],.int .i64 231]) d5)))))))))))/\
 (¬l=0->(2=2)/\∃ea,stN g h.next 0 [.int .i64 0,.slice none 0 0]=some ea/\
 (∃eb ec ed ee,ldN ea h.next 0 2=some [.int .i64 eb,.slice ec ed ee]/\
 (Q (.tuple #[.agg #[.int .i64 eb,.slice ec ed ee],.int .i64 231]) ea)))))):
 Wt K 12 [.slice a b d] h Q:=
  zaj (hs:=[(9,[(50,.int .i64 0)])]) hk (Eq.mpr (by kernel_rfl) H)
theorem zg6 {K:Xs} (hk:K 25=none) (a:Option Addr) (b d:Nat) (h:AH) (Q:Value->AH->Prop) (H:
 ∀e,e=h.alloc (.cells [.int .i64 0,(.string (ByteArray.mk #[])),(.string (ByteArray.mk #[])),.int .i64 0,.slice none 0 0,.slice none 0 0] 57 false)->
 Wt K 23 [.slice a b d] e λf g=>
 (∃i j k l,f=(.tuple #[.slice i j k,.int .i64 l])/\
 ((l=0->((j:Int)=5->aL g [.int .i64 1,.int .i64 2] 3 λm=>zag i λo p=>(((0:Int)<=0)/\((0:Int) < (j:Int))/\
 (lS m o p λq r s=>(Wt K 24 [(.slice (some ⟨g.next,0,none⟩) 2 2),.slice q r s] m λt u=>
 (∃v w x y,t=(.tuple #[.slice v w x,.int .i64 y])/\
 ((y=0->zag v λz aa=>(((0:Int)<=0)/\((0:Int) < (w:Int))/\
 (lU u z aa λab=>(wI ab λac=>zag i λad ae=>(((0:Int)<=1)/\((1:Int) < (j:Int))/\
 (lS u ad (ae+1) λaf ag ah=>(∃ai,zav Tryz.prog u 34 9 (.slice af ag ah)=some (.string ai,u)/\
 (zag i λaj ak=>(((0:Int)<=2)/\((2:Int) < (j:Int))/\
 (lS u aj (ak+2) λal am an=>(∃ao,zav Tryz.prog u 34 9 (.slice al am an)=some (.string ao,u)/\
 (zag i λap aq=>(((0:Int)<=3)/\((3:Int) < (j:Int))/\
 (lS u ap (aq+3) λar au av=>(∀aw,aw=u.alloc (.cells [.int .i64 0,(.string (ByteArray.mk #[])),(.string (ByteArray.mk #[])),.int .i64 0,.slice none 0 0,.slice none 0 0] 57 false)->
 (6=6)/\∃ax,stN aw u.next 0 [.int .i64 ac,.string ai,.string ao,(.int .i64 (-1)),.slice ar au av,.slice none 0 0]=some ax/\
 (zag v λay az=>(((0:Int)<=1)/\((1:Int) < (w:Int))/\
 (lU ax ay (az+1) λa0=>((a0=65535->zag i λa1 a2=>(((0:Int)<=4)/\((4:Int) < (j:Int))/\
 (lS ax a1 (a2+4) λa3 a4 a5=>(((64:Int) < (a4:Int)->(6=6)/\∃a6,stN ax h.next 0 [.int .i64 0,(.string (ByteArray.mk #[])),(.string (ByteArray.mk #[])),.int .i64 0,.slice none 0 0,.slice none 0 0]=some a6/\
 (∃a7 a8 a9 ba bb bc bd be bf bg,ldN a6 h.next 0 6=some [.int .i64 a7,.string a8,.string a9,.int .i64 ba,.slice bb bc bd,.slice be bf bg]/\
 (Q (.tuple #[.agg #[.int .i64 a7,.string a8,.string a9,.int .i64 ba,.slice bb bc bd,.slice be bf bg],.int .i64 231]) a6)))/\
 (¬(64:Int) < (a4:Int)->zag i λbh bi=>(((0:Int)<=4)/\((4:Int) < (j:Int))/\
 (lS ax bh (bi+4) λbj bk bl=>(∃bm:Int->Nat->AH->Prop,(∃n,bm 0 n ax)/\
 ∀(bn:Nat) (bo:AH),∀(bp:Int),bm bp bn bo->
 (bp < (bk:Int)->zag bj λbq br=>(0<=bp/\bp < (bk:Int)/\
 (∃bs,ld1 bo bq (br+bp.toNat * 1)=some (.int .u8 bs)/\
 (((1:Int) < bs->(6=6)/\∃bt,stN bo h.next 0 [.int .i64 0,(.string (ByteArray.mk #[])),(.string (ByteArray.mk #[])),.int .i64 0,.slice none 0 0,.slice none 0 0]=some bt/\
 (∃bu bv bw bx bz b0 b1 b2 b3 b4,ldN bt h.next 0 6=some [.int .i64 bu,.string bv,.string bw,.int .i64 bx,.slice bz b0 b1,.slice b2 b3 b4]/\
 (Q (.tuple #[.agg #[.int .i64 bu,.string bv,.string bw,.int .i64 bx,.slice bz b0 b1,.slice b2 b3 b4],.int .i64 231]) bt)))/\
 (¬(1:Int) < bs->lS bo u.next 5 λb5 b6 b7=>((bs=1->aL bo [.bool true] 4 λb9=>∃da db dc dd,zak Tryz.prog b9 .append #[55,55] [.slice b5 b6 b7,(.slice (some ⟨bo.next,0,none⟩) 1 1)]=some (.slice da db dc,dd)/\
 (sT dd u.next 5 (.slice da db dc) λde=>(wI (bp+1) λdf=>∃dg,dg < bn/\bm df dg de)))/\
 (¬bs=1->aL bo [.bool false] 4 λdh=>∃di dj dk dl,zak Tryz.prog dh .append #[55,55] [.slice b5 b6 b7,(.slice (some ⟨bo.next,0,none⟩) 1 1)]=some (.slice di dj dk,dl)/\
 (sT dl u.next 5 (.slice di dj dk) λdm=>(wI (bp+1) λdn=>∃dg,dg < bn/\bm dn dg dm)))))))))/\
 (¬bp < (bk:Int)->∃dp dq dr ds dt du dv dw dx dy,ldN bo u.next 0 6=some [.int .i64 dp,.string dq,.string dr,.int .i64 ds,.slice dt du dv,.slice dw dx dy]/\
 ((6=6)/\∃dz,stN bo h.next 0 [.int .i64 dp,.string dq,.string dr,.int .i64 ds,.slice dt du dv,.slice dw dx dy]=some dz/\
 (∃d0 d1 d2 d3 d4 d5 d6 d7 d8 d9,ldN dz h.next 0 6=some [.int .i64 d0,.string d1,.string d2,.int .i64 d3,.slice d4 d5 d6,.slice d7 d8 d9]/\
 (Q (.tuple #[.agg #[.int .i64 d0,.string d1,.string d2,.int .i64 d3,.slice d4 d5 d6,.slice d7 d8 d9],.int .i64 0]) dz))))))))))))/\
 (¬a0=65535->zag v λea eb=>(((0:Int)<=1)/\((1:Int) < (w:Int))/\
 (lU ax ea (eb+1) λec=>(wI ec λed=>sT ax u.next 3 (.int .i64 ed) λee=>(zag i λef eg=>(((0:Int)<=4)/\((4:Int) < (j:Int))/\
 (lS ee ef (eg+4) λeh ei ej=>(((64:Int) < (ei:Int)->(6=6)/\∃ek,stN ee h.next 0 [.int .i64 0,(.string (ByteArray.mk #[])),(.string (ByteArray.mk #[])),.int .i64 0,.slice none 0 0,.slice none 0 0]=some ek/\
 (∃el em en eo ep eq er es et eu,ldN ek h.next 0 6=some [.int .i64 el,.string em,.string en,.int .i64 eo,.slice ep eq er,.slice es et eu]/\
 (Q (.tuple #[.agg #[.int .i64 el,.string em,.string en,.int .i64 eo,.slice ep eq er,.slice es et eu],.int .i64 231]) ek)))/\
 (¬(64:Int) < (ei:Int)->zag i λev ew=>(((0:Int)<=4)/\((4:Int) < (j:Int))/\
 (lS ee ev (ew+4) λex ey ez=>(∃e0:Int->Nat->AH->Prop,(∃n,e0 0 n ee)/\
 ∀(e1:Nat) (e2:AH),∀(e3:Int),e0 e3 e1 e2->
 (e3 < (ey:Int)->zag ex λe4 e5=>(0<=e3/\e3 < (ey:Int)/\
 (∃e6,ld1 e2 e4 (e5+e3.toNat * 1)=some (.int .u8 e6)/\
 (((1:Int) < e6->(6=6)/\∃e7,stN e2 h.next 0 [.int .i64 0,(.string (ByteArray.mk #[])),(.string (ByteArray.mk #[])),.int .i64 0,.slice none 0 0,.slice none 0 0]=some e7/\
 (∃e8 e9 fa fb fc fd fe ff fg fh,ldN e7 h.next 0 6=some [.int .i64 e8,.string e9,.string fa,.int .i64 fb,.slice fc fd fe,.slice ff fg fh]/\
 (Q (.tuple #[.agg #[.int .i64 e8,.string e9,.string fa,.int .i64 fb,.slice fc fd fe,.slice ff fg fh],.int .i64 231]) e7)))/\
 (¬(1:Int) < e6->lS e2 u.next 5 λfi fj fk=>((e6=1->aL e2 [.bool true] 4 λfl=>∃fm fn fo fp,zak Tryz.prog fl .append #[55,55] [.slice fi fj fk,(.slice (some ⟨e2.next,0,none⟩) 1 1)]=some (.slice fm fn fo,fp)/\
 (sT fp u.next 5 (.slice fm fn fo) λfq=>(wI (e3+1) λfr=>∃fs,fs < e1/\e0 fr fs fq)))/\
 (¬e6=1->aL e2 [.bool false] 4 λft=>∃fu fv fw fx,zak Tryz.prog ft .append #[55,55] [.slice fi fj fk,(.slice (some ⟨e2.next,0,none⟩) 1 1)]=some (.slice fu fv fw,fx)/\
 (sT fx u.next 5 (.slice fu fv fw) λfy=>(wI (e3+1) λfz=>∃fs,fs < e1/\e0 fz fs fy)))))))))/\
 (¬e3 < (ey:Int)->∃f0 f1 f2 f3 f4 f5 f6 f7 f8 f9,ldN e2 u.next 0 6=some [.int .i64 f0,.string f1,.string f2,.int .i64 f3,.slice f4 f5 f6,.slice f7 f8 f9]/\
 ((6=6)/\∃ga,stN e2 h.next 0 [.int .i64 f0,.string f1,.string f2,.int .i64 f3,.slice f4 f5 f6,.slice f7 f8 f9]=some ga/\
 (∃gb gc gd ge gf gg gh gi gj gk,ldN ga h.next 0 6=some [.int .i64 gb,.string gc,.string gd,.int .i64 ge,.slice gf gg gh,.slice gi gj gk]/\
 (Q (.tuple #[.agg #[.int .i64 gb,.string gc,.string gd,.int .i64 ge,.slice gf gg gh,.slice gi gj gk],.int .i64 0]) ga)))))))))))))))))))))))))))))))))))/\
 (¬y=0->(6=6)/\∃gl,stN u h.next 0 [.int .i64 0,(.string (ByteArray.mk #[])),(.string (ByteArray.mk #[])),.int .i64 0,.slice none 0 0,.slice none 0 0]=some gl/\
 (∃gm gn gp gq gr gs gt gu gv gw,ldN gl h.next 0 6=some [.int .i64 gm,.string gn,.string gp,.int .i64 gq,.slice gr gs gt,.slice gu gv gw]/\
 (Q (.tuple #[.agg #[.int .i64 gm,.string gn,.string gp,.int .i64 gq,.slice gr gs gt,.slice gu gv gw],.int .i64 231]) gl)))))))))/\
 (¬(j:Int)=5->(6=6)/\∃gx,stN g h.next 0 [.int .i64 0,(.string (ByteArray.mk #[])),(.string (ByteArray.mk #[])),.int .i64 0,.slice none 0 0,.slice none 0 0]=some gx/\
 (∃gy gz g0 g1 g2 g3 g4 g5 g6 g7,ldN gx h.next 0 6=some [.int .i64 gy,.string gz,.string g0,.int .i64 g1,.slice g2 g3 g4,.slice g5 g6 g7]/\
 (Q (.tuple #[.agg #[.int .i64 gy,.string gz,.string g0,.int .i64 g1,.slice g2 g3 g4,.slice g5 g6 g7],.int .i64 231]) gx))))/\
 (¬l=0->(6=6)/\∃g8,stN g h.next 0 [.int .i64 0,(.string (ByteArray.mk #[])),(.string (ByteArray.mk #[])),.int .i64 0,.slice none 0 0,.slice none 0 0]=some g8/\
 (∃g9 ia ib ic id ie ig ih ii ij,ldN g8 h.next 0 6=some [.int .i64 g9,.string ia,.string ib,.int .i64 ic,.slice id ie ig,.slice ih ii ij]/\
 (Q (.tuple #[.agg #[.int .i64 g9,.string ia,.string ib,.int .i64 ic,.slice id ie ig,.slice ih ii ij],.int .i64 231]) g8)))))):
 Wt K 25 [.slice a b d] h Q:=
  zaj (hs:=[(13,[(69,.int .i64 0)])]) hk (Eq.mpr (by kernel_rfl) H)
theorem zcX {K:Xs} (hk:K 23=none) (a:Option Addr) (b d:Nat) (h:AH) (Q:Value->AH->Prop) (H:
 Wt K 41 [.slice a b d] h λe f=>
 (∃g i j k,((e=(.tuple #[.int .i64 g,.slice i j k,.bool true])/\
 (∃l:Option Addr->Nat->Nat->Option Addr->Nat->Nat->Int->Nat->AH->Prop,(∃n,l i j k none 0 0 0 n f)/\
 ∀(m:Nat) (o:AH),∀(p:Option Addr) (q:Nat) (r:Nat),∀(s:Option Addr) (t:Nat) (u:Nat),∀(v:Int),l p q r s t u v m o->
 (v < g->Wt K 41 [.slice p q r] o λw x=>
 (∃y z aa ab,((w=(.tuple #[.int .i64 y,.slice z aa ab,.bool true])/\
 (((aa:Int) < y->Q (.tuple #[.slice none 0 0,.int .i64 21]) x)/\
 (¬(aa:Int) < y->(0<=y/\y<=y/\y<=9223372036854775807/\(1:Int) * y<=281474976710656)/\∀ac,ac=x.alloc (.cells ((List.replicate (y.toNat) [.int .u8 0]).flatten) 5 false)->
 ∃(ad:Int) (ae:AH),zak Tryz.prog ac .copy #[34,34] [(.slice (some ⟨x.next,0,none⟩) (y.toNat) (y.toNat)),.slice z aa ab]=some (.int .i64 ad,ae)/\
 (aL ae [(.slice (some ⟨x.next,0,none⟩) (y.toNat) (y.toNat))] 34 λaf=>∃ag ah ai aj,zak Tryz.prog af .append #[63,63] [.slice s t u,(.slice (some ⟨ae.next,0,none⟩) 1 1)]=some (.slice ag ah ai,aj)/\
 (∃ak al am,zay Tryz.prog aj 34 (.slice z aa ab) (some (.int .i64 y)) none none=some (.slice ak al am)/\
 (wI (v+1) λan=>∃ao,ao < m/\l ak al am ag ah ai an ao aj))))))\/(w=(.tuple #[.int .i64 y,.slice z aa ab,.bool false])/\
 (Q (.tuple #[.slice none 0 0,.int .i64 21]) x)))))/\
 (¬v < g->((0:Int) < (q:Int)->Q (.tuple #[.slice none 0 0,.int .i64 21]) o)/\
 (¬(0:Int) < (q:Int)->Q (.tuple #[.slice s t u,.int .i64 0]) o))))\/(e=(.tuple #[.int .i64 g,.slice i j k,.bool false])/\
 (Q (.tuple #[.slice none 0 0,.int .i64 21]) f))))):
 Wt K 23 [.slice a b d] h Q:=
  zaj (hs:=[(6,[(0,.slice none 0 0),(6,.slice none 0 0),(20,.int .i64 0)])]) hk (Eq.mpr (by kernel_rfl) H)
theorem zey {K:Xs} (hk:K 7=none) (a:Int) (b:Option Addr) (d e:Nat) (h:AH) (Q:Value->AH->Prop) (H:
 aL h [.int .i64 a,.slice b d e] 24 λf=>aL f [.int .i64 0,.slice none 0 0] 24 λg=>aL g [] 57 λi=>lS i h.next 1 λj k l=>(∃m:Option Addr->Nat->Nat->Int->Nat->AH->Prop,(∃n,m (some ⟨g.next,0,none⟩) 0 0 0 n i)/\
 ∀(o:Nat) (p:AH),∀(q:Option Addr) (r:Nat) (s:Nat),∀(t:Int),m q r s t o p->
 (t < (k:Int)->zag j λu v=>(0<=t/\t < (k:Int)/\
 (∃w x y z aa ab ac ad ae af,ldN p u (v+t.toNat * 6) 6=some [.int .i64 w,.string x,.string y,.int .i64 z,.slice aa ab ac,.slice ad ae af]/\
 (∀ag,ag=p.alloc (.cells [.int .i64 0,(.string (ByteArray.mk #[])),(.string (ByteArray.mk #[])),.int .i64 0,.slice none 0 0,.slice none 0 0] 57 false)->
 (6=6)/\∃ah,stN ag p.next 0 [.int .i64 w,.string x,.string y,.int .i64 z,.slice aa ab ac,.slice ad ae af]=some ah/\
 (aL ah [] 5 λai=>lS ai p.next 4 λaj ak al=>(∃am an ao ap,zak Tryz.prog ai .append #[34,34] [(.slice (some ⟨ah.next,0,none⟩) 0 0),.slice aj ak al]=some (.slice am an ao,ap)/\
 (sT ap p.next 4 (.slice am an ao) λaq=>(aL aq [] 4 λar=>lS ar p.next 5 λau av aw=>(∃ax ay az a0,zak Tryz.prog ar .append #[55,55] [(.slice (some ⟨aq.next,0,none⟩) 0 0),.slice au av aw]=some (.slice ax ay az,a0)/\
 (sT a0 p.next 5 (.slice ax ay az) λa1=>(∃a2 a3 a4 a5 a6 a7 a8 a9 ba bb,ldN a1 p.next 0 6=some [.int .i64 a2,.string a3,.string a4,.int .i64 a5,.slice a6 a7 a8,.slice a9 ba bb]/\
 (aL a1 [.int .i64 a2,.string a3,.string a4,.int .i64 a5,.slice a6 a7 a8,.slice a9 ba bb] 57 λbc=>∃bd be bf bg,zak Tryz.prog bc .append #[22,22] [.slice q r s,(.slice (some ⟨a1.next,0,none⟩) 1 1)]=some (.slice bd be bf,bg)/\
 (wI (t+1) λbh=>∃bi,bi < o/\m bd be bf bh bi bg)))))))))))))/\
 (¬t < (k:Int)->lI p h.next 0 λbj=>((2=2)/\∃bk,stN p f.next 0 [.int .i64 bj,.slice q r s]=some bk/\
 (∃bl bm bn bo,ldN bk f.next 0 2=some [.int .i64 bl,.slice bm bn bo]/\
 (Q (.agg #[.int .i64 bl,.slice bm bn bo]) bk)))))):
 Wt K 7 [.agg #[.int .i64 a,.slice b d e]] h Q:=
  zaj (hs:=[(3,[(3,.slice none 0 0),(10,.int .i64 0)])]) hk (Eq.mpr (by kernel_rfl) H)
section
def zbT:Nat:=281474976710656
def big:Nat:=1048576
def za8:Nat:=262144
def kLo:IntKind->Int | .i8=>-128 | .i16=>-32768 | .i32=>-2147483648 | .i64=>-9223372036854775808 | _=>0
def kHi:IntKind->Int | .i8=>127 | .i16=>32767 | .i32=>2147483647 | .i64=>9223372036854775807 | .u8=>255 | .u16=>65535 | .u32=>4294967295 | .u64=>18446744073709551615
theorem zwl (k:IntKind):kLo k=k.min:=by cases k <;> rfl
theorem zwm (k:IntKind):kHi k=k.max:=by cases k <;> rfl
structure TY where
 ty:Nat->Option (Bool×TypeId×(Nat->Option Nat))
 dev:Nat
 dv:Nat->Prop
inductive TV where
 | int (k:IntKind) (x:Int)
 | bool (b:Bool)
 | str (s:ByteArray)
 | nilp | nils
 | loc (tag off T:Nat)
 | pp (tag T:Nat)
 | cp (w fr:Bool) (T:Nat)
 | hp (T:Nat)
 | np (T:Nat) (isnil:Bool)
 | sl (w fr kc:Bool) (T n:Nat)
 | ap (tag T n:Nat) (kc:Bool)
 | sp (tag T n:Nat)
 | xs (l:List Int)
 | xp (x:Int)
 | aggT (T:Nat)
 | agg (l:List TV)
 | tup (l:List TV)
 | fn (f:FuncId) (a c:List TV)
 | skip
 | any
inductive PC where
 | tv (t:TypeId) (l:List TV)
 | ty (t:TypeId)
 | rows (T e:Nat)
structure Sx where
 a:Tr TV
 pv:List (Nat×PC)
 g:Int
inductive RS where
 | keep | np
 | sl (w fr kc:Bool)
 | ty (T:Nat)
 | agg (l:List RS)
inductive AP where
 | int (k:IntKind) | bool | str | fn | xs
 | np (T:Nat)
 | sl (w kc:Bool) (T:Nat)
 | aggT (T:Nat)
 | st (v:TV)
 | agg (l:List AP)
 | cl (f:Nat) (la lc:List AP)
mutual
def AT:AP->Type
 | .int _=>Int
 | .bool=>Bool
 | .str=>ByteArray
 | .np _=>Bool
 | .sl _ _ _=>Nat
 | .fn=>FuncId×List TV×List TV
 | .xs=>List Int
 | .aggT _=>Unit
 | .st _=>Unit
 | .agg l=>ATs l
 | .cl _ la lc=>ATs la×ATs lc
def ATs:List AP->Type
 | []=>Unit
 | p :: ps=>AT p×ATs ps
end
mutual
def zce:(p:AP)->AT p->TV
 | .int k,x=>.int k x
 | .bool,b=>.bool b
 | .str,s=>.str s
 | .np T,z=>.np T z
 | .sl w kc T,n=>.sl w false kc T n
 | .fn,(f,a,c)=>.fn f a c
 | .xs,l=>.xs l
 | .aggT T,_=>.aggT T
 | .st v,_=>v
 | .agg l,r=>.agg (instAs l r)
 | .cl f la lc,(r,s)=>.fn f (instAs la r) (instAs lc s)
def instAs:(ps:List AP)->ATs ps->List TV
 | [],_=>[]
 | p :: ps,(r,rs)=>zce p r :: instAs ps rs
end
structure FS where
 pu:Bool
 rs:List RS
 ps:List AP
 s:ATs ps->Int->(TV->Int->Prop)->Prop
structure Cx where
 P:Program
 K:Xs
 fl:Nat->List Nat
 dt:TypeId
 D:TY->Int->AH->Prop
 ke:TypeId->Bool
 sp:FuncId->Option FS
def r4:Nat:=1000000
inductive CK where
 | int (k:IntKind) (lo hi:Int)
 | bool | str | no
 | ptr (t:TypeId)
 | sl (t:TypeId)
 | ss (t:TypeId)
variable (X:Cx)
def inT (t:TypeId):Bool:=Nat.blt t X.P.types.size && !(Nat.beq (X.P.cellsOf t) 0)
def und (t:TypeId):Option TypeDesc:=cond (inT X t) (X.P.underlying t) none
def inf (t:TypeId):Option TypeInfo:=cond (inT X t) (X.P.info? t) none
def isAgg (t:TypeId):Option Bool:=cond (inT X t) (aggT X.P t) none
variable {X} in
theorem zat {t:TypeId} {d:TypeDesc} (h:und X t=some d):X.P.underlying t=some d:=by
 unfold und at h
 cases hb:inT X t <;> rw[hb] at h
 ·cases h
 ·exact h
variable {X} in
theorem zcy {t:TypeId} {d:TypeInfo} (h:inf X t=some d):X.P.info? t=some d:=by
 unfold inf at h
 cases hb:inT X t <;> rw[hb] at h
 ·cases h
 ·exact h
variable {X} in
theorem zbz {t:TypeId} (h:(inf X t).isSome=true):(X.P.info? t).isSome=true:=by
 unfold inf at h
 cases hb:inT X t <;> rw[hb] at h
 ·cases h
 ·exact h
variable {X} in
theorem zbG {t:TypeId} {d:Bool} (h:isAgg X t=some d):aggT X.P t=some d:=by
 unfold isAgg at h
 cases hb:inT X t <;> rw[hb] at h
 ·cases h
 ·exact h
def exK (T:Nat):Bool:=Nat.ble 2000000 T && Nat.blt T 3000000
def shB (T:Nat):Bool:=Nat.ble 4000000 T && Nat.blt T 5000000
def shK (T:Nat):Nat:=4000000+T
def spN (T:Nat):Bool:=Nat.beq T r4 || exK T
def zzb (d:Option TypeDesc):CK:=match d with | some (.slice e)=>.ss e | _=>.no
theorem zug {d:Option TypeDesc} {k:IntKind} {lo hi:Int} (h:zzb d=.int k lo hi):False:=by unfold zzb at h; grind
def ck (T:Nat):CK:=
 cond (Nat.beq T r4) (.int .i64 0 4095) (cond (exK T) (.int .i64 ((T - 2000000:Nat):Int) ((T - 2000000:Nat):Int))
  (cond (shB T) (zzb (und X (T % 1000000))) (match und X T with
  | some (.int k)=>.int k (kLo k) (kHi k)
  | some .bool=>.bool
  | some .string=>.str
  | some (.pointer t)=>.ptr t
  | some (.slice e)=>.sl e
  | _=>.no)))
def AtT (c:Nat->Option Nat) (off T:Nat):Prop:=∀i ct,(X.fl T)[i]?= some ct->c (off+i)=some ct
def sz (T:Nat):Nat:=(X.fl T).length
def zcO (t:TypeId):Nat->Option Nat:=λi=>(X.fl t)[i]?
def zbr (S:TY) (T:Nat) (v:Value):Prop:=
 match Nat.beq T X.dt with
 | true=>v=ptr S.dev 0
 | false=>∃b c,v=ptr b 0/\S.ty b=some (false,T,c)/\AtT X c 0 T
def SlV (S:TY) (base:Nat) (w fr kc:Bool) (T n:Nat) (v:Value):Prop:=
 n<=zbT/\∃p c,v=.slice p n c/\
  ((p=none/\n=0/\c=0)\/
   ∃b off ro e cc,p=some ⟨b,off,none⟩/\S.ty b=some (ro,e,cc)/\(∀j,j < n->AtT X cc (off+j * sz X T) T)/\(w=true->ro=false)/\(fr=true->base<=b)/\
    ((c < zai/\n<=c/\(kc=true->∀j,j < c->AtT X cc (off+j * sz X T) T))\/(c=zai/\kc=false/\X.P.cellsOf e=sz X T)))
def okC (S:TY) (T:Nat) (v:Value):Prop:=
 match ck X T with
 | .int k lo hi=>∃x,v=.int k x/\lo<=x/\x<=hi
 | .bool=>∃b,v=.bool b
 | .str=>∃s:ByteArray,v=.string s/\s.size<=za8
 | .ptr t=>zbr X S t v
 | .sl e=>∃n,n<=big/\SlV X S 0 false false false e n v
 | .ss e=>∃n,n<=za8/\SlV X S 0 false false false e n v
 | .no=>False
def zau (S:TY) (c:Nat->Option Nat) (cs:List Value):Prop:=∀i T,c i=some T->∃v,cs[i]?= some v/\okC X S T v
def WT (S:TY) (g:Int) (h:AH):Prop:=
 (∀b ro e c,S.ty b=some (ro,e,c)->b < h.next/\¬S.dv b/\∃cs r,h.get b=some (.cells cs e r)/\(ro=false->r=false)/\zau X S c cs)/\(∀b,S.dv b->b < h.next)/\X.D S g h
structure Xt (base:Nat) (S S' : TY):Prop where
 ty:∀b q,S.ty b=some q->S'.ty b=some q
 old:∀b,b < base->S'.ty b=S.ty b
 dv:∀b,S.dv b->S'.dv b
 dvo:∀b,b < base->S'.dv b->S.dv b
 dev:S'.dev=S.dev
abbrev Loc:=Nat->Option (Nat×(Nat->Option Nat))
mutual
def gam (S:TY) (h:AH) (L:Loc) (base:Nat):TV->Value->Prop
 | .int k x,v=>v=.int k x/\kLo k<=x/\x<=kHi k
 | .bool b,v=>v=.bool b
 | .str s,v=>v=.string s/\s.size<=za8
 | .nilp,v=>v=.pointer none
 | .nils,v=>v=.slice none 0 0
 | .loc tag off T,v=>∃b c,L tag=some (b,c)/\v=ptr b off/\AtT X c off T
 | .pp tag T,v=>∃b c off,L tag=some (b,c)/\v=ptr b off/\AtT X c off T
 | .cp w fr T,v=>∃b off ro e c,v=ptr b off/\S.ty b=some (ro,e,c)/\AtT X c off T/\(w=true->ro=false)/\(fr=true->base<=b)
 | .hp T,v=>zbr X S T v
 | .np T z,v=>match z with | true=>v=.pointer none | false=>zbr X S T v
 | .sl w fr kc T n,v=>SlV X S base w fr kc T n v
 | .ap tag T n kc,v=>n<=zbT/\∃p cp,v=.slice p n cp/\((p=none/\n=0/\cp=0)\/∃b c cs e,p=some ⟨b,0,none⟩/\L tag=some (b,c)/\h.get b=some (.cells cs e false)/\X.P.cellsOf e=sz X T/\
    ((cp=zai/\kc=false/\cs.length=n * sz X T/\∀j,j < n->AtT X c (j * sz X T) T)\/(cp < zai/\n<=cp/\cs.length=cp * sz X T/\∀j,j < cp->AtT X c (j * sz X T) T)))
 | .sp tag T n,v=>n<=zbT/\∃b c off cp,v=.slice (some ⟨b,off,none⟩) n cp/\n<=cp/\cp < zai/\L tag=some (b,c)/\∀j,j < cp->AtT X c (off+j * sz X T) T
 | .xs l,v=>l.length<=zbT/\∃b off c ro e cs,v=.slice (some ⟨b,off,none⟩) l.length c/\l.length<=c/\c<=zai/\S.ty b=some (ro,e,cs)/\∀i x,l[i]?= some x->cs (off+i)=some (2000000+x.toNat)/\0<=x/\x < 1000000
 | .xp x,v=>∃b off ro e cs,v=ptr b off/\S.ty b=some (ro,e,cs)/\cs off=some (2000000+x.toNat)/\0<=x/\x < 1000000
 | .aggT T,v=>∃vs:List Value,v=.agg vs.toArray/\vs.length=sz X T/\zau X S (zcO X T) vs
 | .agg l,v=>∃vs:List Value,v=.agg vs.toArray/\gams S h L base l vs/\∀x∈vs,zbi x=true
 | .tup l,v=>∃vs:List Value,v=.tuple vs.toArray/\isSkip v=false/\gams S h L base l vs
 | .fn f a c,v=>∃va vc:List Value,v=.func (.func f) va.toArray vc.toArray/\gams S h L base a va/\gams S h L base c vc
 | .skip,v=>isSkip v=true
 | .any,_=>True
def gams (S:TY) (h:AH) (L:Loc) (base:Nat):List TV->List Value->Prop
 | [],[]=>True
 | t :: ts,v :: vs=>gam S h L base t v/\gams S h L base ts vs
 | _,_=>False
end
end
end Go.Am
