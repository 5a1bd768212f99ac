/-
  Texts of this proof, part 32. No condition.
-/
import Derived.Test.YtmnbboleclchcaaGreatFTcE
import Derived.Test.YtmnbboleclchcaaGreatRows
set_option linter.unusedSimpArgs false
set_option linter.unusedVariables false
set_option maxRecDepth 100000
namespace Go.Am
open Go.Proofs
theorem zfI {K:Xs} (hk:K 39=none) (a:Option Addr) (b d:Nat) (h:AH) (Q:Value->AH->Prop) (H:
 ∃e:Int->Int->Nat->AH->Prop,(∃n,e 0 0 n h)/\
 ∀(f:Nat) (g:AH),∀(i:Int),∀(j:Int),e i j f g->
 (j < (b:Int)->zag a λk l=>(0<=j/\j < (b:Int)/\
 (lI g k (l+j.toNat * 1) λm=>((m < 1->Q (.tuple #[.int .i64 0,.bool false]) g)/\
 (¬m < 1->((8:Int) < m->Q (.tuple #[.int .i64 0,.bool false]) g)/\
 (¬(8:Int) < m->wI (i+m) λo=>wI (j+1) λp=>∃q,q < f/\e o p q g))))))/\
 (¬j < (b:Int)->Q (.tuple #[.int .i64 i,.bool true]) g)):
 Wt K 39 [.slice a b d] h Q:=
  zaj (hs:=[(3,[(4,.int .i64 0),(9,.int .i64 0)])]) hk (Eq.mpr (by kernel_rfl) H)
theorem zg1 {K:Xs} (hk:K 18=none) (a:Option Addr) (b d:Nat) (e:Option Addr) (f g:Nat) (h:AH) (Q:Value->AH->Prop) (H:
 Wt K 39 [.slice a b d] h λi j=>
 (∃k,((i=(.tuple #[.int .i64 k,.bool true])/\
 (((f:Int)=(b:Int)->∃l:Int->Nat->AH->Prop,(∃n,l 0 n j)/\
 ∀(m:Nat) (o:AH),∀(p:Int),l p m o->
 (p < (f:Int)->zag e λq r=>(0<=p/\p < (f:Int)/\
 (lU o q (r+p.toNat * 1) λs=>(zag a λt u=>(0<=p/\p < (b:Int)/\
 (lI o t (u+p.toNat * 1) λv=>(wI (8 * v) λw=>∃x,zaV .shr .u64 s w=some (.int .u64 x)/\
 ((x=0->wI (p+1) λy=>∃z,z < m/\l y z o)/\
 (¬x=0->Q (.tuple #[.slice none 0 0,.int .i64 21]) o)))))))))/\
 (¬p < (f:Int)->((0:Int)<=0/\0<=k/\k<=9223372036854775807/\(1:Int) * k<=281474976710656)/\∀aa,aa=o.alloc (.cells ((List.replicate (k.toNat) [.int .u8 0]).flatten) 5 false)->
 ∃ab:Option Addr->Nat->Nat->Int->Nat->AH->Prop,(∃n,ab (some ⟨o.next,0,none⟩) (Int.toNat 0) (k.toNat) 0 n aa)/\
 ∀(ac:Nat) (ad:AH),∀(ae:Option Addr) (af:Nat) (ag:Nat),∀(ah:Int),ab ae af ag ah ac ad->
 (ah < (f:Int)->zag e λai aj=>(0<=ah/\ah < (f:Int)/\
 (lU ad ai (aj+ah.toNat * 1) λak=>(zag a λal am=>(0<=ah/\ah < (b:Int)/\
 (lI ad al (am+ah.toNat * 1) λan=>(∃ao:Option Addr->Nat->Nat->Int->Nat->AH->Prop,(∃n,ao ae af ag 0 n ad)/\
 ∀(ap:Nat) (aq:AH),∀(ar:Option Addr) (au:Nat) (av:Nat),∀(aw:Int),ao ar au av aw ap aq->
 (aw < an->wI (8 * aw) λax=>∃ay,zaV .shr .u64 ak ax=some (.int .u64 ay)/\
 (∀az:Int,az=IntKind.wrap .u8 ay->aL aq [.int .u8 az] 5 λa0=>∃a1 a2 a3 a4,zak Tryz.prog a0 .append #[34,34] [.slice ar au av,(.slice (some ⟨aq.next,0,none⟩) 1 1)]=some (.slice a1 a2 a3,a4)/\
 (wI (aw+1) λa5=>∃a6,a6 < ap/\ao a1 a2 a3 a5 a6 a4)))/\
 (¬aw < an->wI (ah+1) λa7=>∃a8,a8 < ac/\ab ar au av a7 a8 aq))))))))/\
 (¬ah < (f:Int)->Q (.tuple #[.slice ae af ag,.int .i64 0]) ad)))/\
 (¬(f:Int)=(b:Int)->Q (.tuple #[.slice none 0 0,.int .i64 21]) j)))\/(i=(.tuple #[.int .i64 k,.bool false])/\
 (Q (.tuple #[.slice none 0 0,.int .i64 21]) j))))):
 Wt K 18 [.slice a b d,.slice e f g] h Q:=
  zaj (hs:=[(5,[(30,.int .i64 0)]),(12,[(10,.slice none 0 0),(48,.int .i64 0)]),(15,[(10,.slice none 0 0),(57,.int .i64 0)])]) hk (Eq.mpr (by kernel_rfl) H)
theorem zee {K:Xs} (hk:K 24=none) (a:Option Addr) (b d:Nat) (e:Option Addr) (f g:Nat) (h:AH) (Q:Value->AH->Prop) (H:
 Wt K 39 [.slice a b d] h λi j=>
 (∃k,((i=(.tuple #[.int .i64 k,.bool true])/\
 (((f:Int)=k->((0:Int)<=0/\(0:Int)<=(b:Int)/\(b:Int)<=9223372036854775807/\(8:Int) * (b:Int)<=281474976710656)/\∀l,l=j.alloc (.cells ((List.replicate (Int.toNat (b:Int)) [.int .u64 0]).flatten) 62 false)->
 ∃m:Option Addr->Nat->Nat->Option Addr->Nat->Nat->Int->Nat->AH->Prop,(∃n,m e f g (some ⟨j.next,0,none⟩) (Int.toNat 0) (Int.toNat (b:Int)) 0 n l)/\
 ∀(o:Nat) (p:AH),∀(q:Option Addr) (r:Nat) (s:Nat),∀(t:Option Addr) (u:Nat) (v:Nat),∀(w:Int),m q r s t u v w o p->
 (w < (b:Int)->zag a λx y=>(0<=w/\w < (b:Int)/\
 (lI p x (y+w.toNat * 1) λz=>(∃aa:Int->Int->Nat->AH->Prop,(∃n,aa 0 0 n p)/\
 ∀(ab:Nat) (ac:AH),∀(ad:Int),∀(ae:Int),aa ad ae ab ac->
 (ae < z->zag q λaf ag=>(0<=ae/\ae < (r:Int)/\
 (∃ah,ld1 ac af (ag+ae.toNat * 1)=some (.int .u8 ah)/\
 (∀ai:Int,ai=IntKind.wrap .u64 ah->wI (8 * ae) λaj=>∃ak,zaV .shl .u64 ai aj=some (.int .u64 ak)/\
 (∃al,zgK .or .u64 ad ak=some (.int .u64 al)/\
 (wI (ae+1) λam=>∃an,an < ab/\aa al am an ac))))))/\
 (¬ae < z->aL ac [.int .u64 ad] 62 λao=>∃ap aq ar au,zak Tryz.prog ao .append #[70,70] [.slice t u v,(.slice (some ⟨ac.next,0,none⟩) 1 1)]=some (.slice ap aq ar,au)/\
 (∃av aw ax,zay Tryz.prog au 34 (.slice q r s) (some (.int .i64 z)) none none=some (.slice av aw ax)/\
 (wI (w+1) λay=>∃az,az < o/\m av aw ax ap aq ar ay az au)))))))/\
 (¬w < (b:Int)->Q (.tuple #[.slice t u v,.int .i64 0]) p))/\
 (¬(f:Int)=k->Q (.tuple #[.slice none 0 0,.int .i64 21]) j)))\/(i=(.tuple #[.int .i64 k,.bool false])/\
 (Q (.tuple #[.slice none 0 0,.int .i64 21]) j))))):
 Wt K 24 [.slice a b d,.slice e f g] h Q:=
  zaj (hs:=[(6,[(1,.slice none 0 0),(8,.slice none 0 0),(31,.int .i64 0)]),(10,[(11,.int .u64 0),(36,.int .i64 0)])]) hk (Eq.mpr (by kernel_rfl) H)
theorem zfJ {K:Xs} (hk:K 20=none) (a:Option Addr) (b d:Nat) (h:AH) (Q:Value->AH->Prop) (H:
 ((65535:Int) < (b:Int)->Q (.tuple #[.slice none 0 0,.int .i64 21]) h)/\
 (¬(65535:Int) < (b:Int)->∃e:Int->Int->Nat->AH->Prop,(∃n,e 2 0 n h)/\
 ∀(f:Nat) (g:AH),∀(i:Int),∀(j:Int),e i j f g->
 (j < (b:Int)->zag a λk l=>(0<=j/\j < (b:Int)/\
 (lS g k (l+j.toNat * 1) λm o p=>(((65535:Int) < (o:Int)->Q (.tuple #[.slice none 0 0,.int .i64 21]) g)/\
 (¬(65535:Int) < (o:Int)->wI (2+(o:Int)) λq=>wI (i+q) λr=>wI (j+1) λs=>∃t,t < f/\e r s t g)))))/\
 (¬j < (b:Int)->((0:Int)<=0/\0<=i/\i<=9223372036854775807/\(1:Int) * i<=281474976710656)/\∀u,u=g.alloc (.cells ((List.replicate (i.toNat) [.int .u8 0]).flatten) 5 false)->
 ∀v:Int,v=IntKind.wrap .u8 (b:Int)->∃w,zaV .shr .i64 (b:Int) 8=some (.int .i64 w)/\
 (∀x:Int,x=IntKind.wrap .u8 w->aL u [.int .u8 v,.int .u8 x] 5 λy=>∃z aa ab ac,zak Tryz.prog y .append #[34,34] [(.slice (some ⟨g.next,0,none⟩) (Int.toNat 0) (i.toNat)),(.slice (some ⟨u.next,0,none⟩) 2 2)]=some (.slice z aa ab,ac)/\
 (∃ad:Option Addr->Nat->Nat->Int->Nat->AH->Prop,(∃n,ad z aa ab 0 n ac)/\
 ∀(ae:Nat) (af:AH),∀(ag:Option Addr) (ah:Nat) (ai:Nat),∀(aj:Int),ad ag ah ai aj ae af->
 (aj < (b:Int)->zag a λak al=>(0<=aj/\aj < (b:Int)/\
 (lS af ak (al+aj.toNat * 1) λam an ao=>(∀ap:Int,ap=IntKind.wrap .u8 (an:Int)->∃aq,zaV .shr .i64 (an:Int) 8=some (.int .i64 aq)/\
 (∀ar:Int,ar=IntKind.wrap .u8 aq->aL af [.int .u8 ap,.int .u8 ar] 5 λau=>∃av aw ax ay,zak Tryz.prog au .append #[34,34] [.slice ag ah ai,(.slice (some ⟨af.next,0,none⟩) 2 2)]=some (.slice av aw ax,ay)/\
 (∃az a0 a1 a2,zak Tryz.prog ay .append #[34,34] [.slice av aw ax,.slice am an ao]=some (.slice az a0 a1,a2)/\
 (wI (aj+1) λa3=>∃a4,a4 < ae/\ad az a0 a1 a3 a4 a2)))))))/\
 (¬aj < (b:Int)->Q (.tuple #[.slice ag ah ai,.int .i64 0]) af)))))):
 Wt K 20 [.slice a b d] h Q:=
  zaj (hs:=[(5,[(4,.int .i64 0),(15,.int .i64 0)]),(14,[(7,.slice none 0 0),(42,.int .i64 0)])]) hk (Eq.mpr (by kernel_rfl) H)
theorem zcF {K:Xs} (hk:K 41=none) (a:Option Addr) (b d:Nat) (h:AH) (Q:Value->AH->Prop) (H:
 ((b:Int) < 2->Q (.tuple #[.int .i64 0,.slice none 0 0,.bool false]) h)/\
 (¬(b:Int) < 2->zag a λe f=>(((0:Int)<=0)/\((0:Int) < (b:Int))/\
 (∃g,ld1 h e f=some (.int .u8 g)/\
 (wI g λi=>zag a λj k=>(((0:Int)<=1)/\((1:Int) < (b:Int))/\
 (∃l,ld1 h j (k+1)=some (.int .u8 l)/\
 (wI l λm=>∃n,zaV .shl .i64 m 8=some (.int .i64 n)/\
 (∃o,zgK .or .i64 i n=some (.int .i64 o)/\
 (∃p q r,zay Tryz.prog h 34 (.slice a b d) (some (.int .i64 2)) none none=some (.slice p q r)/\
 (Q (.tuple #[.int .i64 o,.slice p q r,.bool true]) h))))))))))):
 Wt K 41 [.slice a b d] h Q:=
  zaj (hs:=[]) hk (Eq.mpr (by kernel_rfl) H)
theorem zeM {K:Xs} (hk:K 26=none) (a:Option Addr) (b d:Nat) (e:Option Addr) (f g:Nat) (h:AH) (Q:Value->AH->Prop) (H:
 ∃i,zav Tryz.prog h 34 9 (.slice a b d)=some (.string i,h)/\
 (∃j,zav Tryz.prog h 34 9 (.slice e f g)=some (.string j,h)/\
 ((i=j->Q (.bool true) h)/\
 (¬i=j->Q (.bool false) h)))):
 Wt K 26 [.slice a b d,.slice e f g] h Q:=
  zaj (hs:=[]) hk (Eq.mpr (by kernel_rfl) H)
theorem zkS {K:Xs} (hk:K 107=none) (a:ByteArray) (h:AH) (Q:Value->AH->Prop) (H:
 ((a.size:Int) < 1->Q (.bool false) h)/\
 (¬(a.size:Int) < 1->((24:Int) < (a.size:Int)->Q (.bool false) h)/\
 (¬(24:Int) < (a.size:Int)->∀b,b=h.alloc (.siter a 0)->
 ∃d:Nat->AH->Prop,(∃n,d n b)/\
 ∀(e:Nat) (f:AH),d e f->
 ((0:Nat)=0)/\∃(g:ByteArray) (pos6:Nat),f.get h.next=some (.siter g pos6)/\
 (pos6 < g.size->∀i,i=f.set h.next (.siter g (pos6+(Utf8.decode g pos6).2))->((97:Int)<=(Utf8.decode g pos6).1->(((Utf8.decode g pos6).1:Int)<=122->∃j,j < e/\d j i)/\
 (¬((Utf8.decode g pos6).1:Int)<=122->((48:Int)<=(Utf8.decode g pos6).1->(((Utf8.decode g pos6).1:Int)<=57->∃j,j < e/\d j i)/\
 (¬((Utf8.decode g pos6).1:Int)<=57->(((Utf8.decode g pos6).1:Int)=45->∃j,j < e/\d j i)/\
 (¬((Utf8.decode g pos6).1:Int)=45->(((Utf8.decode g pos6).1:Int)=95->∃j,j < e/\d j i)/\
 (¬((Utf8.decode g pos6).1:Int)=95->Q (.bool false) i))))/\
 (¬(48:Int)<=(Utf8.decode g pos6).1->(((Utf8.decode g pos6).1:Int)=45->∃j,j < e/\d j i)/\
 (¬((Utf8.decode g pos6).1:Int)=45->(((Utf8.decode g pos6).1:Int)=95->∃j,j < e/\d j i)/\
 (¬((Utf8.decode g pos6).1:Int)=95->Q (.bool false) i)))))/\
 (¬(97:Int)<=(Utf8.decode g pos6).1->((48:Int)<=(Utf8.decode g pos6).1->(((Utf8.decode g pos6).1:Int)<=57->∃j,j < e/\d j i)/\
 (¬((Utf8.decode g pos6).1:Int)<=57->(((Utf8.decode g pos6).1:Int)=45->∃j,j < e/\d j i)/\
 (¬((Utf8.decode g pos6).1:Int)=45->(((Utf8.decode g pos6).1:Int)=95->∃j,j < e/\d j i)/\
 (¬((Utf8.decode g pos6).1:Int)=95->Q (.bool false) i))))/\
 (¬(48:Int)<=(Utf8.decode g pos6).1->(((Utf8.decode g pos6).1:Int)=45->∃j,j < e/\d j i)/\
 (¬((Utf8.decode g pos6).1:Int)=45->(((Utf8.decode g pos6).1:Int)=95->∃j,j < e/\d j i)/\
 (¬((Utf8.decode g pos6).1:Int)=95->Q (.bool false) i)))))/\
 (¬pos6 < g.size->Q (.bool true) f)))):
 Wt K 107 [.string a] h Q:=
  zaj (hs:=[(4,[])]) hk (Eq.mpr (by kernel_rfl) H)
theorem ziM {K:Xs} (hk:K 225=none) (a:Int) (b:Int) (h:AH) (Q:Value->AH->Prop) (H:
 wI (a+b) λd=>wI (d - 1) λe=>(b≠(0:Int))/\(wI (Int.tdiv e b) λf=>Q (.int .i64 f) h)):
 Wt K 225 [.int .i64 a,.int .i64 b] h Q:=
  zaj (hs:=[]) hk (Eq.mpr (by kernel_rfl) H)
theorem zjs {K:Xs} (hk:K 184=none) (a:Int) (h:AH) (Q:Value->AH->Prop) (H:
 (a < 1->Q (.slice none 0 0) h)/\
 (¬a < 1->((65535:Int) < a->Q (.slice none 0 0) h)/\
 (¬(65535:Int) < a->Wt K 225 [.int .i64 a,.int .i64 128] h λb d=>
 (∃e,b=(.int .i64 e)/\
 (aL d [.int .i64 e] 3 λf=>∃g:Int->Option Addr->Nat->Nat->Nat->AH->Prop,(∃n,g e (some ⟨d.next,0,none⟩) 1 1 n f)/\
 ∀(i:Nat) (j:AH),∀(k:Int),∀(l:Option Addr) (m:Nat) (o:Nat),g k l m o i j->
 ((1:Int) < k->Wt K 225 [.int .i64 k,.int .i64 8] j λp q=>
 (∃r,p=(.int .i64 r)/\
 (aL q [.int .i64 r] 3 λs=>∃t u v w,zak Tryz.prog s .append #[61,61] [.slice l m o,(.slice (some ⟨q.next,0,none⟩) 1 1)]=some (.slice t u v,w)/\
 (∃x,x < i/\g r t u v x w))))/\
 (¬(1:Int) < k->Q (.slice l m o) j)))))):
 Wt K 184 [.int .i64 a] h Q:=
  zaj (hs:=[(5,[(3,.int .i64 0),(4,.slice none 0 0)])]) hk (Eq.mpr (by kernel_rfl) H)
theorem zkT {K:Xs} (hk:K 230=none) (a:Bool) (b:Int) (d:Int) (h:AH) (Q:Value->AH->Prop) (H:
 aL h [.bool a,.int .i64 b,.int .i64 d] 312 λe=>∃f g,ldN e h.next 1 2=some [.int .i64 f,.int .i64 g]/\
 (aL e [.int .i64 f,.int .i64 g] 294 λi=>Wt K 214 [(.slice (some ⟨e.next,0,none⟩) 1 1)] i λj k=>
 (((j=(.bool true)/\
 (Q (.bool true) k))\/(j=(.bool false)/\
 (Q (.bool false) k)))))):
 Wt K 230 [.agg #[.bool a,.int .i64 b,.int .i64 d]] h Q:=
  zaj (hs:=[]) hk (Eq.mpr (by kernel_rfl) H)
theorem znY {K:Xs} (hk:K 218=none) (a:Option Addr) (b d:Nat) (e:Int) (h:AH) (Q:Value->AH->Prop) (H:
 aL h [.int .i64 e] 3 λf=>aL f [.bool false] 4 λg=>Wt K 197 [.slice a b d] g λj k=>
 (∃(l:FuncId) (cap5:List Value),j=(.func (.func l) #[] cap5.toArray)/\
 (∃(m:Nat->AH->Prop) (n:AX->AH->Prop) (N8:Nat) (item9:Nat->List Value) (G12 o:AH->AH->Prop),
 (K l=none/\([8]:List Nat)=[8])/\
 (∀i,i < N8->∃p,item9 i=[.int .i64 p])/\
 (∀g,g.next=k.next+1->(∀c,c≠k.next->g.get c=k.get c)->m 0 g)/\
 (∀i g q,m i g->zaZ k.next g q->m i q)/\
 (∀x g q,n x g->zaZ k.next g q->n x q)/\
 (∀i g q,m i g->G12 g q->m i q)/\(∀x g q,n x g->G12 g q->n x q)/\(∀g q,G12 g q->q.get k.next=g.get k.next)/\
 (∀(r:Nat) (s:AH),r < N8->m r s->(∃L,s.get k.next=some (.loop L))->∀(t:Int),item9 r=[.int .i64 t]->
 AX.normal=AX.normal/\(s.get k.next=s.get k.next)/\∀u,zaZ k.next s u->(∃L,u.get k.next=some (.loop L))->
 lI u h.next 0 λv=>((v<=t->lI u h.next 0 λw=>((t=w->sT u f.next 0 (.bool true) λy=>((y.get k.next=u.get k.next/\n .ret y/\∀z,zaZ k.next y z->o s z)))/\
 (¬t=w->sT u f.next 0 (.bool false) λaa=>((aa.get k.next=u.get k.next/\n .ret aa/\∀z,zaZ k.next aa z->o s z)))))/\
 (¬v<=t->(u.get k.next=u.get k.next/\m (r+1) u/\∀z,zaZ k.next u z->o s z))))/\
 (∀(JJ21:Nat->AH->Prop) (DD22:AH->Prop),(∀i g,JJ21 i g->m i g)->(∀i g q,JJ21 i g->G12 g q->JJ21 i q)->(∀g q,DD22 g->G12 g q->DD22 q)->
 (∀(ab:Nat) (ac:AH),ab < N8->JJ21 ab ac->Wy Tryz.prog K k.next (item9 ab) ac λad ae=>((ad=.bool true/\JJ21 (ab+1) ae)\/(ad=.bool false/\DD22 ae))/\o ac ae)->
 ∀af,JJ21 0 af->Wt K l ([(Value.func (Fn.yield k.next) #[] #[])] ++ cap5) af λ_ ag=>JJ21 N8 ag\/DD22 ag)/\
 (∀ah,m N8 ah->sT (ah.del k.next) f.next 0 (.bool false) λai=>(((ld1 ai f.next 0=some (.bool true)/\
 (Q (.bool true) ai))\/(ld1 ai f.next 0=some (.bool false)/\
 (Q (.bool false) ai)))))/\
 (∀aj,n .ret aj->((ld1 (aj.del k.next) f.next 0=some (.bool true)/\
 (Q (.bool true) (aj.del k.next)))\/(ld1 (aj.del k.next) f.next 0=some (.bool false)/\
 (Q (.bool false) (aj.del k.next)))))/\
 (∀(ak:AX) (aj:AH),ak≠.normal->n ak aj->zeX ak [.ret]=true)))):
 Wt K 218 [.slice a b d,.int .i64 e] h Q:=
  zaj (hs:=[(2,[(8,.int .i64 0)])]) hk (Eq.mpr (by kernel_rfl) H)
theorem zcS {K:Xs} (hk:K 197=none) (a:Option Addr) (b d:Nat) (h:AH) (Q:Value->AH->Prop) (H:
 aL h [.slice a b d] 153 λe=>Q (.func (.func 232) #[] #[(.pointer (some ⟨h.next,0,none⟩))]) e):
 Wt K 197 [.slice a b d] h Q:=
  zaj (hs:=[]) hk (Eq.mpr (by kernel_rfl) H)
theorem zeN {K:Xs} (hk:K 232=none) (ya0:Nat) (a:Option Addr) (h:AH) (Q:Value->AH->Prop) (H:
 zag a λb d=>(lS h b d λe f g=>(Wt K 214 [.slice e f g] h λi j=>
 (((i=(.bool true)/\
 (zag a λk l=>(lS j k l λm o p=>(∃q:Int->Nat->AH->Prop,(∃n,q 0 n j)/\
 ∀(r:Nat) (s:AH),∀(t:Int),q t r s->
 (t < (o:Int)->zag m λu v=>(0<=t/\t < (o:Int)/\
 (∃w x,ldN s u (v+t.toNat * 2) 2=some [.int .i64 w,.int .i64 x]/\
 (aL s [.int .i64 0,.int .i64 0] 294 λy=>(2=2)/\∃z,stN y s.next 0 [.int .i64 w,.int .i64 x]=some z/\
 (lI z s.next 1 λaa=>(∃ab:Int->Nat->AH->Prop,(∃n,ab 0 n z)/\
 ∀(ac:Nat) (ad:AH),∀(ae:Int),ab ae ac ad->
 (ae < aa->lI ad s.next 0 λaf=>(wI (af+ae) λag=>Wy Tryz.prog K ya0 [.int .i64 ag] ad λah ai=>∃aj,ah=.bool aj/\
 (cond (!aj) (Q (.tuple #[]) ai)
 (wI (ae+1) λak=>∃al,al < ac/\ab ak al ai))))/\
 (¬ae < aa->wI (t+1) λam=>∃an,an < r/\q am an ad)))))))/\
 (¬t < (o:Int)->Q (.tuple #[]) s)))))\/(i=(.bool false)/\
 (Q (.tuple #[]) j))))))):
 Wt K 232 [(Value.func (Fn.yield ya0) #[] #[]),.pointer a] h Q:=
  zaj (hs:=[(2,[(11,.int .i64 0)]),(5,[(17,.int .i64 0)])]) hk (Eq.mpr (by kernel_rfl) H)
theorem zmA {K:Xs} (hk:K 126=none) (a:Option Addr) (b d:Nat) (h:AH) (Q:Value->AH->Prop) (H:
 Wt K 196 [.slice a b d] h λe f=>
 (∃g,e=(.int .i64 g)/\
 (((0:Int)<=0/\0<=g/\g<=9223372036854775807/\(8:Int) * g<=281474976710656)/\∀j,j=f.alloc (.cells ((List.replicate (g.toNat) [.int .i64 0]).flatten) 3 false)->
 aL j [.slice none 0 0] 61 λk=>sT k j.next 0 (.slice (some ⟨f.next,0,none⟩) (Int.toNat 0) (g.toNat)) λl=>(Wt K 197 [.slice a b d] l λm n=>
 (∃(o:FuncId) (cap9:List Value),m=(.func (.func o) #[] cap9.toArray)/\
 (∃(p:Nat->AH->Prop) (q:AX->AH->Prop) (N12:Nat) (item13:Nat->List Value) (G16 r:AH->AH->Prop),
 (K o=none/\([10]:List Nat)=[10])/\
 (∀i,i < N12->∃s,item13 i=[.int .i64 s])/\
 (∀f,f.next=n.next+1->(∀c,c≠n.next->f.get c=n.get c)->p 0 f)/\
 (∀i f t,p i f->zaZ n.next f t->p i t)/\
 (∀x f t,q x f->zaZ n.next f t->q x t)/\
 (∀i f t,p i f->G16 f t->p i t)/\(∀x f t,q x f->G16 f t->q x t)/\(∀f t,G16 f t->t.get n.next=f.get n.next)/\
 (∀(u:Nat) (v:AH),u < N12->p u v->(∃L,v.get n.next=some (.loop L))->∀(w:Int),item13 u=[.int .i64 w]->
 AX.normal=AX.normal/\(v.get n.next=v.get n.next)/\∀y,zaZ n.next v y->(∃L,y.get n.next=some (.loop L))->
 lS y j.next 0 λz aa ab=>(aL y [.int .i64 w] 3 λac=>∃ad ae af ag,zak Tryz.prog ac .append #[61,61] [.slice z aa ab,(.slice (some ⟨y.next,0,none⟩) 1 1)]=some (.slice ad ae af,ag)/\
 (sT ag j.next 0 (.slice ad ae af) λah=>((ah.get n.next=y.get n.next/\p (u+1) ah/\∀l,zaZ n.next ah l->r v l)))))/\
 (∀(JJ30:Nat->AH->Prop) (DD31:AH->Prop),(∀i f,JJ30 i f->p i f)->(∀i f t,JJ30 i f->G16 f t->JJ30 i t)->(∀f t,DD31 f->G16 f t->DD31 t)->
 (∀(ai:Nat) (aj:AH),ai < N12->JJ30 ai aj->Wy Tryz.prog K n.next (item13 ai) aj λak al=>((ak=.bool true/\JJ30 (ai+1) al)\/(ak=.bool false/\DD31 al))/\r aj al)->
 ∀am,JJ30 0 am->Wt K o ([(Value.func (Fn.yield n.next) #[] #[])] ++ cap9) am λ_ an=>JJ30 N12 an\/DD31 an)/\
 (∀ao,p N12 ao->lS (ao.del n.next) j.next 0 λap aq ar=>(Q (.slice ap aq ar) (ao.del n.next)))/\
 (∀(au:AX) (av:AH),au≠.normal->q au av->zeX au []=true))))))):
 Wt K 126 [.slice a b d] h Q:=
  zaj (hs:=[(3,[(10,.int .i64 0)])]) hk (Eq.mpr (by kernel_rfl) H)
theorem zmB {K:Xs} (hk:K 268=none) (a:Option Addr) (b d:Nat) (h:AH) (Q:Value->AH->Prop) (H:
 ∃e:List Value,zao Tryz.prog 336=some e/\aL h e 336 λf=>Wt K 197 [.slice a b d] f λg j=>
 (∃(k:FuncId) (cap5:List Value),g=(.func (.func k) #[] cap5.toArray)/\
 (∃(l:Nat->AH->Prop) (m:AX->AH->Prop) (N8:Nat) (item9:Nat->List Value) (G12 n:AH->AH->Prop),
 (K k=none/\([7]:List Nat)=[7])/\
 (∀i,i < N8->∃o,item9 i=[.int .i64 o])/\
 (∀f,f.next=j.next+1->(∀c,c≠j.next->f.get c=j.get c)->l 0 f)/\
 (∀i f p,l i f->zaZ j.next f p->l i p)/\
 (∀x f p,m x f->zaZ j.next f p->m x p)/\
 (∀i f p,l i f->G12 f p->l i p)/\(∀x f p,m x f->G12 f p->m x p)/\(∀f p,G12 f p->p.get j.next=f.get j.next)/\
 (∀(q:Nat) (r:AH),q < N8->l q r->(∃L,r.get j.next=some (.loop L))->∀(s:Int),item9 q=[.int .i64 s]->
 AX.normal=AX.normal/\(r.get j.next=r.get j.next)/\∀t,zaZ j.next r t->(∃L,t.get j.next=some (.loop L))->
 (0<=s)/\(s < 4096)/\
 (sT t h.next (0+s.toNat * 1) (.bool true) λu=>((u.get j.next=t.get j.next/\l (q+1) u/\∀v,zaZ j.next u v->n r v))))/\
 (∀(JJ18:Nat->AH->Prop) (DD19:AH->Prop),(∀i f,JJ18 i f->l i f)->(∀i f p,JJ18 i f->G12 f p->JJ18 i p)->(∀f p,DD19 f->G12 f p->DD19 p)->
 (∀(w:Nat) (y:AH),w < N8->JJ18 w y->Wy Tryz.prog K j.next (item9 w) y λz aa=>((z=.bool true/\JJ18 (w+1) aa)\/(z=.bool false/\DD19 aa))/\n y aa)->
 ∀ab,JJ18 0 ab->Wt K k ([(Value.func (Fn.yield j.next) #[] #[])] ++ cap5) ab λ_ ac=>JJ18 N8 ac\/DD19 ac)/\
 (∀ad,l N8 ad->Q (.pointer (some ⟨h.next,0,none⟩)) (ad.del j.next))/\
 (∀(ae:AX) (af:AH),ae≠.normal->m ae af->zeX ae []=true)))):
 Wt K 268 [.slice a b d] h Q:=
  zaj (hs:=[(3,[(7,.int .i64 0)])]) hk (Eq.mpr (by kernel_rfl) H)
theorem znZ {K:Xs} (hk:K 260=none) (a:Option Addr) (b d:Nat) (e:Option Addr) (f g:Nat) (h:AH) (Q:Value->AH->Prop) (H:
 Wt K 268 [.slice a b d] h λj k=>
 (∃l:Option Addr,j=(.pointer l)/\
 (aL k [.pointer none] 345 λm=>sT m k.next 0 (.pointer l) λn=>(Wt K 197 [.slice e f g] n λo p=>
 (∃(q:FuncId) (cap8:List Value),o=(.func (.func q) #[] cap8.toArray)/\
 (∃(r:Nat->AH->Prop) (s:AX->AH->Prop) (N11:Nat) (item12:Nat->List Value) (G15 t:AH->AH->Prop),
 (K q=none/\([11]:List Nat)=[11])/\
 (∀i,i < N11->∃u,item12 i=[.int .i64 u])/\
 (∀k,k.next=p.next+1->(∀c,c≠p.next->k.get c=p.get c)->r 0 k)/\
 (∀i k v,r i k->zaZ p.next k v->r i v)/\
 (∀x k v,s x k->zaZ p.next k v->s x v)/\
 (∀i k v,r i k->G15 k v->r i v)/\(∀x k v,s x k->G15 k v->s x v)/\(∀k v,G15 k v->v.get p.next=k.get p.next)/\
 (∀(w:Nat) (y:AH),w < N11->r w y->(∃L,y.get p.next=some (.loop L))->∀(z:Int),item12 w=[.int .i64 z]->
 AX.normal=AX.normal/\(y.get p.next=y.get p.next)/\∀aa,zaZ p.next y aa->(∃L,aa.get p.next=some (.loop L))->
 ∃ab:Option Addr,ld1 aa k.next 0=some (.pointer ab)/\
 (zag ab λac ad=>(0<=z/\z < 4096/\
 (sT aa ac (ad+z.toNat * 1) (.bool false) λae=>((ae.get p.next=aa.get p.next/\r (w+1) ae/\∀af,zaZ p.next ae af->t y af))))))/\
 (∀(JJ24:Nat->AH->Prop) (DD25:AH->Prop),(∀i k,JJ24 i k->r i k)->(∀i k v,JJ24 i k->G15 k v->JJ24 i v)->(∀k v,DD25 k->G15 k v->DD25 v)->
 (∀(ag:Nat) (ah:AH),ag < N11->JJ24 ag ah->Wy Tryz.prog K p.next (item12 ag) ah λai aj=>((ai=.bool true/\JJ24 (ag+1) aj)\/(ai=.bool false/\DD25 aj))/\t ah aj)->
 ∀ak,JJ24 0 ak->Wt K q ([(Value.func (Fn.yield p.next) #[] #[])] ++ cap8) ak λ_ al=>JJ24 N11 al\/DD25 al)/\
 (∀am,r N11 am->∃an:Option Addr,ld1 (am.del p.next) k.next 0=some (.pointer an)/\
 (Wt K 253 [.pointer an] (am.del p.next) λao ap=>
 (∃aq ar au,ao=(.slice aq ar au)/\
 (Q (.slice aq ar au) ap))))/\
 (∀(av:AX) (aw:AH),av≠.normal->s av aw->zeX av []=true))))))):
 Wt K 260 [.slice a b d,.slice e f g] h Q:=
  zaj (hs:=[(3,[(11,.int .i64 0)])]) hk (Eq.mpr (by kernel_rfl) H)
abbrev zb9 (K:Xs) (Q:Value->AH->Prop) (ax:Int) (ay:AH) (az:AH) (a0:Int):Prop:=
 (¬ax=0->(11=11)/\∃a1,stN ay az.next 0 (zC)=some a1/\
 (∃a2 a3 a4 a5 a6 a7 a8 a9 ba bb bc bd be,ldN a1 az.next 0 11=some (sC a2 a3 a4 a5 a6 a7 a8 a9 ba bb bc bd be)/\
 (Q (.tuple #[.agg (sC a2 a3 a4 a5 a6 a7 a8 a9 ba bb bc bd be).toArray,.int .i64 a0]) a1)))
abbrev zeO (K:Xs) (Q:Value->AH->Prop) (bf:AH) (az:AH):Prop:=
 (∃bg bh bi bj bk bl bm bn bo bp bq br bs,ldN bf az.next 0 11=some (sC bg bh bi bj bk bl bm bn bo bp bq br bs)/\
 (Q (.tuple #[.agg (sC bg bh bi bj bk bl bm bn bo bp bq br bs).toArray,.int .i64 0]) bf))
abbrev zeP (K:Xs) (Q:Value->AH->Prop) (bt:AH) (az:AH) (a0:Int):Prop:=
 (∃bu bv bw bx z u bz b0 b1 b2 b3 b4 b5,ldN bt az.next 0 11=some (sC bu bv bw bx z u bz b0 b1 b2 b3 b4 b5)/\
 (Q (.tuple #[.agg (sC bu bv bw bx z u bz b0 b1 b2 b3 b4 b5).toArray,.int .i64 a0]) bt))
theorem zjt {K:Xs} (hk:K 188=none) (a:Option Addr) (b d:Nat) (e:AH) (Q:Value->AH->Prop) (H:
 ∀f,f=e.alloc (.cells (zC) 99 false)->
 Wt K 23 [.slice a b d] f λg i=>
 (∃j k l m,g=(.tuple #[.slice j k l,.int .i64 m])/\
 ((m=0->((k:Int)=3->zag j λn o=>(((0:Int)<=0)/\((0:Int) < (k:Int))/\
 (lS i n o λp q r=>(((q:Int) < 34->(11=11)/\∃s,stN i e.next 0 (zC)=some s/\
 (zeP K Q s e 151))/\
 (¬(q:Int) < 34->aL i [.int .i64 8,.int .i64 1,.int .i64 8,.int .i64 8,.int .i64 8,.int .i64 1] 3 λt=>zag j λu v=>(((0:Int)<=0)/\((0:Int) < (k:Int))/\
 (lS t u v λw x y=>(∃z aa ab,zay Tryz.prog t 34 (.slice w x y) none (some (.int .i64 34)) none=some (.slice z aa ab)/\
 (Wt K 24 [(.slice (some ⟨i.next,0,none⟩) 6 6),.slice z aa ab] t λac ad=>
 (∃ae af ag ah,ac=(.tuple #[.slice ae af ag,.int .i64 ah])/\
 ((ah=0->zag j λai aj=>(((0:Int)<=0)/\((0:Int) < (k:Int))/\
 (lS ad ai aj λak al am=>(∃an ao ap,zay Tryz.prog ad 34 (.slice ak al am) (some (.int .i64 34)) none none=some (.slice an ao ap)/\
 (Wt K 187 [.slice an ao ap] ad λaq ar=>
 (∃au av aw ax,aq=(.tuple #[.agg (qL au av aw).toArray,.int .i64 ax])/\
 (aL ar [.int .i64 0,.int .u64 0,.int .u32 0] 96 λay=>(3=3)/\∃az,stN ay ar.next 0 (qL au av aw)=some az/\
 ((ax=0->zag j λa0 a1=>(((0:Int)<=2)/\((2:Int) < (k:Int))/\
 (lS az a0 (a1+2) λa2 a3 a4=>(Wt K 227 [.slice a2 a3 a4] az λa5 a6=>
 (∃a7 a8 a9 ba,a5=(.tuple #[.slice a7 a8 a9,.int .i64 ba])/\
 ((ba=0->zag ae λbb bc=>(((0:Int)<=0)/\((0:Int) < (af:Int))/\
 (lU a6 bb bc λbd=>(zag j λbe bf=>(((0:Int)<=1)/\((1:Int) < (k:Int))/\
 (lS a6 be (bf+1) λbg bh bi=>(∃bj,zav Tryz.prog a6 34 9 (.slice bg bh bi)=some (.string bj,a6)/\
 (zag ae λbk bl=>(((0:Int)<=1)/\((1:Int) < (af:Int))/\
 (lU a6 bk (bl+1) λbm=>((bm=1->zag ae λbn bo=>(((0:Int)<=2)/\((2:Int) < (af:Int))/\
 (lU a6 bn (bo+2) λbp=>(zag ae λbq br=>(((0:Int)<=3)/\((3:Int) < (af:Int))/\
 (lU a6 bq (br+3) λbs=>(zag ae λbt bu=>(((0:Int)<=4)/\((4:Int) < (af:Int))/\
 (lU a6 bt (bu+4) λbv=>(zag ae λbw bx=>(((0:Int)<=5)/\((5:Int) < (af:Int))/\
 (lU a6 bw (bx+5) λbz=>(wI bz λb0=>∃b1 b2 b3,ldN a6 ar.next 0 3=some (qL b1 b2 b3)/\
 ((11=11)/\∃b4,stN a6 e.next 0 (sC bd bj true bp bs bv b0 b1 b2 b3 a7 a8 a9)=some b4/\
 (zeO K Q b4 e)))))))))))))))/\
 (¬bm=1->zag ae λb5 b6=>(((0:Int)<=2)/\((2:Int) < (af:Int))/\
 (lU a6 b5 (b6+2) λb8=>(zag ae λb9 da=>(((0:Int)<=3)/\((3:Int) < (af:Int))/\
 (lU a6 b9 (da+3) λdb=>(zag ae λdc dd=>(((0:Int)<=4)/\((4:Int) < (af:Int))/\
 (lU a6 dc (dd+4) λde=>(zag ae λdf dg=>(((0:Int)<=5)/\((5:Int) < (af:Int))/\
 (lU a6 df (dg+5) λdh=>(wI dh λdi=>∃dj dk dl,ldN a6 ar.next 0 3=some (qL dj dk dl)/\
 ((11=11)/\∃dm,stN a6 e.next 0 (sC bd bj false b8 db de di dj dk dl a7 a8 a9)=some dm/\
 (zeO K Q dm e))))))))))))))))))))))))))/\
 (zb9 K Q ba a6 e 151)))))))/\
 (zb9 K Q ax az e 151)))))))))/\
 (zb9 K Q ah ad e 151))))))))))))/\
 (¬(k:Int)=3->(11=11)/\∃dn,stN i e.next 0 (zC)=some dn/\
 (zeP K Q dn e 151)))/\
 (zb9 K Q m i e 151)))):
 Wt K 188 [.slice a b d] e Q:=
  zaj (hs:=[]) hk (Eq.mpr (by kernel_rfl) H)
theorem zju {K:Xs} (hk:K 124=none) (a:Int) (b:Option Addr) (d e:Nat) (h:AH) (Q:Value->AH->Prop) (H:
 Wt K 166 [.int .i64 a] h λf g=>
 (∃i,f=(.int .i64 i)/\
 ((i=0->Q (.tuple #[.slice none 0 0,.int .i64 81]) g)/\
 (¬i=0->((d:Int)=i->aL g [.int .i64 2] 3 λj=>∃k l m,zay Tryz.prog j 34 (.slice b d e) none (some (.int .i64 2)) none=some (.slice k l m)/\
 (Wt K 24 [(.slice (some ⟨g.next,0,none⟩) 1 1),.slice k l m] j λn o=>
 (∃p q r s,n=(.tuple #[.slice p q r,.int .i64 s])/\
 ((s=0->zag p λt u=>(((0:Int)<=0)/\((0:Int) < (q:Int))/\
 (lU o t u λv=>(wI (i - 2) λw=>(5≠(0:Int))/\(wI (Int.tdiv w 5) λx=>∀y:Int,y=IntKind.wrap .u64 x->(y < v->Q (.tuple #[.slice none 0 0,.int .i64 81]) o)/\
 (¬y < v->zag p λz aa=>(((0:Int)<=0)/\((0:Int) < (q:Int))/\
 (lU o z aa λab=>(wI ab λac=>wI (5 * ac) λad=>wI (2+ad) λae=>∃af ag ah,zay Tryz.prog o 34 (.slice b d e) (some (.int .i64 2)) (some (.int .i64 ae)) none=some (.slice af ag ah)/\
 (Wt K 193 [.slice af ag ah] o λai aj=>
 (∃ak al am an,ai=(.tuple #[.slice ak al am,.int .i64 an])/\
 ((an=0->Wt K 194 [.slice none 0 0,.slice ak al am] aj λao ap=>
 (∃aq ar au av,ao=(.tuple #[.slice aq ar au,.int .i64 av])/\
 ((av=0->Wt K 169 [.int .i64 a,.slice aq ar au] ap λaw ax=>
 (∃ay az a0 a1,aw=(.tuple #[.slice ay az a0,.int .i64 a1])/\
 ((a1=0->Wt K 26 [.slice ay az a0,.slice b d e] ax λa2 a3=>
 (((a2=(.bool true)/\
 (Q (.tuple #[.slice aq ar au,.int .i64 0]) a3))\/(a2=(.bool false)/\
 (Q (.tuple #[.slice none 0 0,.int .i64 81]) a3)))))/\
 (¬a1=0->Q (.tuple #[.slice none 0 0,.int .i64 81]) ax))))/\
 (¬av=0->Q (.tuple #[.slice none 0 0,.int .i64 81]) ap))))/\
 (¬an=0->Q (.tuple #[.slice none 0 0,.int .i64 81]) aj)))))))))))))/\
 (¬s=0->Q (.tuple #[.slice none 0 0,.int .i64 81]) o)))))/\
 (¬(d:Int)=i->Q (.tuple #[.slice none 0 0,.int .i64 81]) g))))):
 Wt K 124 [.int .i64 a,.slice b d e] h Q:=
  zaj (hs:=[]) hk (Eq.mpr (by kernel_rfl) H)
theorem zb5 {K:Xs} (hk:K 208=none) (a:Option Addr) (b d:Nat) (e:Int) (h:AH) (Q:Value->AH->Prop) (H:
 aL h [.slice a b d] 89 λf=>aL f [.int .u64 e] 62 λg=>Q (.func (.func 237) #[] #[(.pointer (some ⟨h.next,0,none⟩)),(.pointer (some ⟨f.next,0,none⟩))]) g):
 Wt K 208 [.slice a b d,.int .u64 e] h Q:=
  zaj (hs:=[]) hk (Eq.mpr (by kernel_rfl) H)
theorem ze7 {K:Xs} (hk:K 237=none) (ya0:Nat) (a:Option Addr) (b:Option Addr) (h:AH) (Q:Value->AH->Prop) (H:
 zag a λd e=>(lS h d e λf g i=>(∃j:Int->Nat->AH->Prop,(∃n,j 0 n h)/\
 ∀(k:Nat) (l:AH),∀(m:Int),j m k l->
 (m < (g:Int)->zag a λo p=>(lS l o p λq r s=>(zag q λt u=>(0<=m/\m < (r:Int)/\
 (lU l t ((u+m.toNat * 11)+4) λv=>(zag b λw x=>(lU l w x λy=>((v=y->Wy Tryz.prog K ya0 [.int .i64 m] l λz aa=>∃ab,z=.bool ab/\
 (cond (!ab) (Q (.tuple #[]) aa)
 (wI (m+1) λac=>∃ad,ad < k/\j ac ad aa)))/\
 (¬v=y->wI (m+1) λae=>∃ad,ad < k/\j ae ad l)))))))))/\
 (¬m < (g:Int)->Q (.tuple #[]) l)))):
 Wt K 237 [(Value.func (Fn.yield ya0) #[] #[]),.pointer a,.pointer b] h Q:=
  zaj (hs:=[(1,[(7,.int .i64 0)])]) hk (Eq.mpr (by kernel_rfl) H)
theorem zez {K:Xs} (hk:K 192=none) (a:Option Addr) (b d:Nat) (e:Option Addr) (h:AH) (Q:Value->AH->Prop) (H:
 aL h [.slice a b d] 89 λf=>aL f [.pointer e] 93 λg=>∃j:Option Addr,ld1 g f.next 0=some (.pointer j)/\
 (zag j λk l=>(((ld1 g k (l+2)=some (.bool true)/\
 (lS g h.next 0 λm n o=>(∃p:Option Addr,ld1 g f.next 0=some (.pointer p)/\
 (zag p λq r=>(lU g q (r+3) λs=>(Wt K 59 [.slice m n o,.int .u64 s] g λt u=>
 (∃v,t=(.int .i64 v)/\
 ((v < 0->Q (.bool false) u)/\
 (¬v < 0->lS u h.next 0 λw y z=>(zag w λaa ab=>(0<=v/\v < (y:Int)/\
 (((ld1 u aa ((ab+v.toNat * 11)+2)=some (.bool true)/\
 (Q (.bool false) u))\/(ld1 u aa ((ab+v.toNat * 11)+2)=some (.bool false)/\
 (aL u [.int .i64 0] 3 λac=>sT ac u.next 0 (.int .i64 0) λad=>(lS ad h.next 0 λae af ag=>(∃ah:Option Addr,ld1 ad f.next 0=some (.pointer ah)/\
 (zag ah λai aj=>(lU ad ai aj λak=>(Wt K 208 [.slice ae af ag,.int .u64 ak] ad λal am=>
 (∃(an:FuncId) (cap32:List Value),al=(.func (.func an) #[] cap32.toArray)/\
 (∃(ao:Nat->AH->Prop) (ap:AX->AH->Prop) (N35:Nat) (item36:Nat->List Value) (G39 aq:AH->AH->Prop),
 (K an=none/\([34]:List Nat)=[34])/\
 (∀i,i < N35->∃ar,item36 i=[.int .i64 ar])/\
 (∀g,g.next=am.next+1->(∀c,c≠am.next->g.get c=am.get c)->ao 0 g)/\
 (∀i g au,ao i g->zaZ am.next g au->ao i au)/\
 (∀x g au,ap x g->zaZ am.next g au->ap x au)/\
 (∀i g au,ao i g->G39 g au->ao i au)/\(∀x g au,ap x g->G39 g au->ap x au)/\(∀g au,G39 g au->au.get am.next=g.get am.next)/\
 (∀(av:Nat) (aw:AH),av < N35->ao av aw->(∃L,aw.get am.next=some (.loop L))->∀(ax:Int),item36 av=[.int .i64 ax]->
 AX.normal=AX.normal/\(aw.get am.next=aw.get am.next)/\∀ay,zaZ am.next aw ay->(∃L,ay.get am.next=some (.loop L))->
 lS ay h.next 0 λaz a0 a1=>(zag az λa2 a3=>(0<=ax/\ax < (a0:Int)/\
 (lU ay a2 ((a3+ax.toNat * 11)+3) λa4=>(∃a5:Option Addr,ld1 ay f.next 0=some (.pointer a5)/\
 (zag a5 λa6 a7=>(lU ay a6 (a7+3) λa8=>((a4=a8->lI ay u.next 0 λa9=>(wI (a9+1) λba=>sT ay u.next 0 (.int .i64 ba) λbb=>((bb.get am.next=ay.get am.next/\ao (av+1) bb/\∀bc,zaZ am.next bb bc->aq aw bc))))/\
 (¬a4=a8->(ay.get am.next=ay.get am.next/\ao (av+1) ay/\∀bc,zaZ am.next ay bc->aq aw bc))))))))))/\
 (∀(JJ57:Nat->AH->Prop) (DD58:AH->Prop),(∀i g,JJ57 i g->ao i g)->(∀i g au,JJ57 i g->G39 g au->JJ57 i au)->(∀g au,DD58 g->G39 g au->DD58 au)->
 (∀(bd:Nat) (be:AH),bd < N35->JJ57 bd be->Wy Tryz.prog K am.next (item36 bd) be λbf bg=>((bf=.bool true/\JJ57 (bd+1) bg)\/(bf=.bool false/\DD58 bg))/\aq be bg)->
 ∀bh,JJ57 0 bh->Wt K an ([(Value.func (Fn.yield am.next) #[] #[])] ++ cap32) bh λ_ bi=>JJ57 N35 bi\/DD58 bi)/\
 (∀bj,ao N35 bj->lI (bj.del am.next) u.next 0 λbk=>((bk=1->Q (.bool true) (bj.del am.next))/\
 (¬bk=1->Q (.bool false) (bj.del am.next))))/\
 (∀(bl:AX) (bm:AH),bl≠.normal->ap bl bm->zeX bl []=true)))))))))))))))))))))))\/(ld1 g k (l+2)=some (.bool false)/\
 (Q (.bool true) g)))))):
 Wt K 192 [.slice a b d,.pointer e] h Q:=
  zaj (hs:=[(8,[(34,.int .i64 0)])]) hk (Eq.mpr (by kernel_rfl) H)
theorem zjv {K:Xs} (hk:K 155=none) (a:Option Addr) (b d:Nat) (e:Int) (h:AH) (Q:Value->AH->Prop) (H:
 aL h [.slice a b d] 89 λf=>aL f [.int .u64 0] 62 λg=>lS g h.next 0 λj k l=>(Wt K 59 [.slice j k l,.int .u64 e] g λm n=>
 (∃o,m=(.int .i64 o)/\
 (aL n [.int .i64 0] 3 λp=>sT p n.next 0 (.int .i64 o) λq=>(lI q n.next 0 λr=>((r < 0->sT q f.next 0 (.int .u64 0) λs=>(lU s f.next 0 λt=>(Q (.int .u64 t) s)))/\
 (¬r < 0->lS q h.next 0 λu v w=>(lI q n.next 0 λy=>(zag u λz aa=>(0<=y/\y < (v:Int)/\
 (((ld1 q z ((aa+y.toNat * 11)+2)=some (.bool true)/\
 (lS q h.next 0 λab ac ad=>(Wt K 208 [.slice ab ac ad,.int .u64 e] q λae af=>
 (∃(ag:FuncId) (cap25:List Value),ae=(.func (.func ag) #[] cap25.toArray)/\
 (∃(ah:Nat->AH->Prop) (ai:AX->AH->Prop) (N28:Nat) (item29:Nat->List Value) (G32 aj:AH->AH->Prop),
 (K ag=none/\([23]:List Nat)=[23])/\
 (∀i,i < N28->∃ak,item29 i=[.int .i64 ak])/\
 (∀g,g.next=af.next+1->(∀c,c≠af.next->g.get c=af.get c)->ah 0 g)/\
 (∀i g al,ah i g->zaZ af.next g al->ah i al)/\
 (∀x g al,ai x g->zaZ af.next g al->ai x al)/\
 (∀i g al,ah i g->G32 g al->ah i al)/\(∀x g al,ai x g->G32 g al->ai x al)/\(∀g al,G32 g al->al.get af.next=g.get af.next)/\
 (∀(am:Nat) (an:AH),am < N28->ah am an->(∃L,an.get af.next=some (.loop L))->∀(ao:Int),item29 am=[.int .i64 ao]->
 AX.normal=AX.normal/\(an.get af.next=an.get af.next)/\∀ap,zaZ af.next an ap->(∃L,ap.get af.next=some (.loop L))->
 lS ap h.next 0 λaq ar au=>(zag aq λav aw=>(0<=ao/\ao < (ar:Int)/\
 (lU ap av ((aw+ao.toNat * 11)+3) λax=>(lS ap h.next 0 λay az a0=>(lI ap n.next 0 λa1=>(zag ay λa2 a3=>(0<=a1/\a1 < (az:Int)/\
 (lU ap a2 ((a3+a1.toNat * 11)+3) λa4=>((ax=a4->lS ap h.next 0 λa5 a6 a7=>(zag a5 λa8 a9=>(0<=ao/\ao < (a6:Int)/\
 (lU ap a8 (a9+ao.toNat * 11) λba=>(sT ap f.next 0 (.int .u64 ba) λbb=>((bb.get af.next=ap.get af.next/\ai .ret bb/\∀bc,zaZ af.next bb bc->aj an bc)))))))/\
 (¬ax=a4->(ap.get af.next=ap.get af.next/\ah (am+1) ap/\∀bc,zaZ af.next ap bc->aj an bc))))))))))))/\
 (∀(JJ57:Nat->AH->Prop) (DD58:AH->Prop),(∀i g,JJ57 i g->ah i g)->(∀i g al,JJ57 i g->G32 g al->JJ57 i al)->(∀g al,DD58 g->G32 g al->DD58 al)->
 (∀(bd:Nat) (be:AH),bd < N28->JJ57 bd be->Wy Tryz.prog K af.next (item29 bd) be λbf bg=>((bf=.bool true/\JJ57 (bd+1) bg)\/(bf=.bool false/\DD58 bg))/\aj be bg)->
 ∀bh,JJ57 0 bh->Wt K ag ([(Value.func (Fn.yield af.next) #[] #[])] ++ cap25) bh λ_ bi=>JJ57 N28 bi\/DD58 bi)/\
 (∀bj,ah N28 bj->sT (bj.del af.next) f.next 0 (.int .u64 0) λbk=>(lU bk f.next 0 λbl=>(Q (.int .u64 bl) bk)))/\
 (∀bm,ai .ret bm->lU (bm.del af.next) f.next 0 λbn=>(Q (.int .u64 bn) (bm.del af.next)))/\
 (∀(bo:AX) (bm:AH),bo≠.normal->ai bo bm->zeX bo [.ret]=true))))))\/(ld1 q z ((aa+y.toNat * 11)+2)=some (.bool false)/\
 (sT q f.next 0 (.int .u64 0) λbp=>(lU bp f.next 0 λbq=>(Q (.int .u64 bq) bp)))))))))))))))):
 Wt K 155 [.slice a b d,.int .u64 e] h Q:=
  zaj (hs:=[(5,[(23,.int .i64 0)])]) hk (Eq.mpr (by kernel_rfl) H)
theorem zhd {K:Xs} (hk:K 154=none) (a:Option Addr) (b d:Nat) (e:Int) (h:AH) (Q:Value->AH->Prop) (H:
 aL h [.slice a b d] 89 λf=>lS f h.next 0 λg j k=>(Wt K 59 [.slice g j k,.int .u64 e] f λl m=>
 (∃n,l=(.int .i64 n)/\
 (aL m [.int .i64 0] 3 λo=>sT o m.next 0 (.int .i64 n) λp=>(lI p m.next 0 λq=>((q < 0->Q (.slice none 0 0) p)/\
 (¬q < 0->lS p h.next 0 λr s t=>(lI p m.next 0 λu=>(zag r λv w=>(0<=u/\u < (s:Int)/\
 (((ld1 p v ((w+u.toNat * 11)+2)=some (.bool true)/\
 (aL p [.slice none 0 0] 70 λy=>lS y h.next 0 λz aa ab=>(Wt K 208 [.slice z aa ab,.int .u64 e] y λac ad=>
 (∃(ae:FuncId) (cap23:List Value),ac=(.func (.func ae) #[] cap23.toArray)/\
 (∃(af:Nat->AH->Prop) (ag:AX->AH->Prop) (N26:Nat) (item27:Nat->List Value) (G30 ah:AH->AH->Prop),
 (K ae=none/\([24]:List Nat)=[24])/\
 (∀i,i < N26->∃ai,item27 i=[.int .i64 ai])/\
 (∀aj,aj.next=ad.next+1->(∀c,c≠ad.next->aj.get c=ad.get c)->af 0 aj)/\
 (∀i aj ak,af i aj->zaZ ad.next aj ak->af i ak)/\
 (∀x aj ak,ag x aj->zaZ ad.next aj ak->ag x ak)/\
 (∀i aj ak,af i aj->G30 aj ak->af i ak)/\(∀x aj ak,ag x aj->G30 aj ak->ag x ak)/\(∀aj ak,G30 aj ak->ak.get ad.next=aj.get ad.next)/\
 (∀(al:Nat) (am:AH),al < N26->af al am->(∃L,am.get ad.next=some (.loop L))->∀(an:Int),item27 al=[.int .i64 an]->
 AX.normal=AX.normal/\(am.get ad.next=am.get ad.next)/\∀ao,zaZ ad.next am ao->(∃L,ao.get ad.next=some (.loop L))->
 lS ao h.next 0 λap aq ar=>(zag ap λau av=>(0<=an/\an < (aq:Int)/\
 (lU ao au ((av+an.toNat * 11)+3) λaw=>(lS ao h.next 0 λax ay az=>(lI ao m.next 0 λa0=>(zag ax λa1 a2=>(0<=a0/\a0 < (ay:Int)/\
 (lU ao a1 ((a2+a0.toNat * 11)+3) λa3=>((aw=a3->(ao.get ad.next=ao.get ad.next/\af (al+1) ao/\∀m,zaZ ad.next ao m->ah am m))/\
 (¬aw=a3->lS ao p.next 0 λa4 a5 a6=>(lS ao h.next 0 λa7 a8 a9=>(zag a7 λba bb=>(0<=an/\an < (a8:Int)/\
 (lU ao ba (bb+an.toNat * 11) λbc=>(aL ao [.int .u64 bc] 62 λbd=>∃be bf bg bh,zak Tryz.prog bd .append #[70,70] [.slice a4 a5 a6,(.slice (some ⟨ao.next,0,none⟩) 1 1)]=some (.slice be bf bg,bh)/\
 (sT bh p.next 0 (.slice be bf bg) λbi=>((bi.get ad.next=ao.get ad.next/\af (al+1) bi/\∀m,zaZ ad.next bi m->ah am m)))))))))))))))))))/\
 (∀(JJ63:Nat->AH->Prop) (DD64:AH->Prop),(∀i aj,JJ63 i aj->af i aj)->(∀i aj ak,JJ63 i aj->G30 aj ak->JJ63 i ak)->(∀aj ak,DD64 aj->G30 aj ak->DD64 ak)->
 (∀(bj:Nat) (bk:AH),bj < N26->JJ63 bj bk->Wy Tryz.prog K ad.next (item27 bj) bk λbl bm=>((bl=.bool true/\JJ63 (bj+1) bm)\/(bl=.bool false/\DD64 bm))/\ah bk bm)->
 ∀bn,JJ63 0 bn->Wt K ae ([(Value.func (Fn.yield ad.next) #[] #[])] ++ cap23) bn λ_ bo=>JJ63 N26 bo\/DD64 bo)/\
 (∀bp,af N26 bp->lS (bp.del ad.next) p.next 0 λbq br bs=>(Q (.slice bq br bs) (bp.del ad.next)))/\
 (∀(bt:AX) (bu:AH),bt≠.normal->ag bt bu->zeX bt []=true))))))\/(ld1 p v ((w+u.toNat * 11)+2)=some (.bool false)/\
 (Q (.slice none 0 0) p)))))))))))))):
 Wt K 154 [.slice a b d,.int .u64 e] h Q:=
  zaj (hs:=[(6,[(24,.int .i64 0)])]) hk (Eq.mpr (by kernel_rfl) H)
theorem zhe {K:Xs} (hk:K 212=none) (a:Option Addr) (b:Option Addr) (d e:Nat) (f:Option Addr) (g j:Nat) (h:AH) (Q:Value->AH->Prop) (H:
 aL h [.pointer a] 105 λk=>aL k [.slice f g j] 61 λl=>aL l [.slice none 0 0] 97 λm=>aL m [.int .i64 0] 30 λn=>aL n [.slice none 0 0] 97 λo=>Wt K 239 [.slice b d e,.int .i64 128] o λp q=>
 (∃(r:FuncId) (cap8:List Value),p=(.func (.func r) #[] cap8.toArray)/\
 (∃(s:Nat->AH->Prop) (t:AX->AH->Prop) (N11:Nat) (item12:Nat->List Value) (G15 u:AH->AH->Prop),
 (K r=none/\([14]:List Nat)=[14])/\
 (∀i,i < N11->∃v w y,item12 i=[.slice v w y])/\
 (∀l,l.next=q.next+1->(∀c,c≠q.next->l.get c=q.get c)->s 0 l)/\
 (∀i l m,s i l->zaZ q.next l m->s i m)/\
 (∀x l m,t x l->zaZ q.next l m->t x m)/\
 (∀i l m,s i l->G15 l m->s i m)/\(∀x l m,t x l->G15 l m->t x m)/\(∀l m,G15 l m->m.get q.next=l.get q.next)/\
 (∀(z:Nat) (aa:AH),z < N11->s z aa->(∃L,aa.get q.next=some (.loop L))->∀(ab:Option Addr) (ac:Nat) (ad:Nat),item12 z=[.slice ab ac ad]->
 AX.normal=AX.normal/\(aa.get q.next=aa.get q.next)/\∀ae,zaZ q.next aa ae->(∃L,ae.get q.next=some (.loop L))->
 ∃af:Option Addr,ld1 ae h.next 0=some (.pointer af)/\
 (lS ae k.next 0 λag ah ai=>(lS ae n.next 0 λaj ak al=>(zag ag λam an=>(((0:Int)<=(ak:Int))/\((ak:Int) < (ah:Int))/\
 (lI ae am (an+Int.toNat (ak:Int) * 1) λao=>(Wt K 172 [.pointer af,.int .i64 ao,.slice ab ac ad] ae λap aq=>
 (∃ar au av aw,ap=(.tuple #[.agg (qL ar au av).toArray,.int .i64 aw])/\
 (aL aq [.int .i64 0,.int .u64 0,.int .u32 0] 96 λax=>(3=3)/\∃ay,stN ax aq.next 0 (qL ar au av)=some ay/\
 ((aw=0->lS ay n.next 0 λaz a0 a1=>(∃a2 a3 a4,ldN ay aq.next 0 3=some (qL a2 a3 a4)/\
 (∀a5,a5=ay.alloc (.cells (qL a2 a3 a4) 96 false)->
 ∃a6 a7 a8 a9,zak Tryz.prog a5 .append #[97,97] [.slice az a0 a1,(.slice (some ⟨ay.next,0,none⟩) 1 1)]=some (.slice a6 a7 a8,a9)/\
 (sT a9 n.next 0 (.slice a6 a7 a8) λba=>((ba.get q.next=ae.get q.next/\s (z+1) ba/\∀bb,zaZ q.next ba bb->u aa bb))))))/\
 (¬aw=0->sT ay l.next 0 (.slice none 0 0) λbc=>(sT bc m.next 0 (.int .i64 aw) λbd=>((bd.get q.next=ae.get q.next/\t .ret bd/\∀bb,zaZ q.next bd bb->u aa bb))))))))))))))/\
 (∀(JJ56:Nat->AH->Prop) (DD57:AH->Prop),(∀i l,JJ56 i l->s i l)->(∀i l m,JJ56 i l->G15 l m->JJ56 i m)->(∀l m,DD57 l->G15 l m->DD57 m)->
 (∀(be:Nat) (bf:AH),be < N11->JJ56 be bf->Wy Tryz.prog K q.next (item12 be) bf λbg bh=>((bg=.bool true/\JJ56 (be+1) bh)\/(bg=.bool false/\DD57 bh))/\u bf bh)->
 ∀bi,JJ56 0 bi->Wt K r ([(Value.func (Fn.yield q.next) #[] #[])] ++ cap8) bi λ_ bj=>JJ56 N11 bj\/DD57 bj)/\
 (∀bk,s N11 bk->lS (bk.del q.next) n.next 0 λbl bm bn=>(sT (bk.del q.next) l.next 0 (.slice bl bm bn) λbo=>(sT bo m.next 0 (.int .i64 0) λbp=>(lS bp l.next 0 λbq br bs=>(lI bp m.next 0 λbt=>(Q (.tuple #[.slice bq br bs,.int .i64 bt]) bp))))))/\
 (∀bu,t .ret bu->lS (bu.del q.next) l.next 0 λbv bw bx=>(lI (bu.del q.next) m.next 0 λbz=>(Q (.tuple #[.slice bv bw bx,.int .i64 bz]) (bu.del q.next))))/\
 (∀(b0:AX) (bu:AH),b0≠.normal->t b0 bu->zeX b0 [.ret]=true)))):
 Wt K 212 [.pointer a,.slice b d e,.slice f g j] h Q:=
  zaj (hs:=[(3,[(14,.slice none 0 0)])]) hk (Eq.mpr (by kernel_rfl) H)
theorem zgz {K:Xs} (hk:K 213=none) (a:Option Addr) (b:Option Addr) (d e:Nat) (f:Option Addr) (g j:Nat) (h:AH) (Q:Value->AH->Prop) (H:
 aL h [.pointer a] 105 λk=>aL k [.slice f g j] 61 λl=>aL l [.slice none 0 0] 97 λm=>aL m [.int .i64 0] 30 λn=>aL n [.slice none 0 0] 97 λo=>Wt K 240 [.slice b d e,.int .i64 8] o λp q=>
 (∃(r:FuncId) (cap8:List Value),p=(.func (.func r) #[] cap8.toArray)/\
 (∃(s:Nat->AH->Prop) (t:AX->AH->Prop) (N11:Nat) (item12:Nat->List Value) (G15 u:AH->AH->Prop),
 (K r=none/\([16]:List Nat)=[16])/\
 (∀i,i < N11->∃v w y,item12 i=[.slice v w y])/\
 (∀l,l.next=q.next+1->(∀c,c≠q.next->l.get c=q.get c)->s 0 l)/\
 (∀i l m,s i l->zaZ q.next l m->s i m)/\
 (∀x l m,t x l->zaZ q.next l m->t x m)/\
 (∀i l m,s i l->G15 l m->s i m)/\(∀x l m,t x l->G15 l m->t x m)/\(∀l m,G15 l m->m.get q.next=l.get q.next)/\
 (∀(z:Nat) (aa:AH),z < N11->s z aa->(∃L,aa.get q.next=some (.loop L))->∀(ab:Option Addr) (ac:Nat) (ad:Nat),item12 z=[.slice ab ac ad]->
 AX.normal=AX.normal/\(aa.get q.next=aa.get q.next)/\∀ae,zaZ q.next aa ae->(∃L,ae.get q.next=some (.loop L))->
 aL ae [.int .i64 0,.int .u64 0,.int .u32 0,.int .i64 0,.int .u64 0,.int .u32 0,.int .i64 0,.int .u64 0,.int .u32 0,.int .i64 0,.int .u64 0,.int .u32 0,.int .i64 0,.int .u64 0,.int .u32 0,.int .i64 0,.int .u64 0,.int .u32 0,.int .i64 0,.int .u64 0,.int .u32 0,.int .i64 0,.int .u64 0,.int .u32 0] 212 λaf=>∃ag ah ai,zay Tryz.prog af 212 (.pointer (some ⟨ae.next,0,none⟩)) none none none=some (.slice ag ah ai)/\
 (∃(aj:Int) (ak:AH),zak Tryz.prog af .copy #[97,97] [.slice ag ah ai,.slice ab ac ad]=some (.int .i64 aj,ak)/\
 (∃l30:List Value,ldN ak ae.next 0 24=some l30/\
 (Wt K 201 [.agg l30.toArray] ak λal am=>
 (∃l33:List Value,∃an,al=(.tuple #[.agg l33.toArray,.int .i64 an])/\
 (∀ao,ao=am.alloc (.cells (List.replicate 128 (.int .u8 0):List Value) 41 false)->
 (List.length l33=128)/\∃ap,stN ao am.next 0 l33=some ap/\
 ((an=0->∃aq:Option Addr,ld1 ap h.next 0=some (.pointer aq)/\
 (lS ap k.next 0 λar au av=>(lS ap n.next 0 λaw ax ay=>(zag ar λaz a0=>(((0:Int)<=(ax:Int))/\((ax:Int) < (au:Int))/\
 (lI ap az (a0+Int.toNat (ax:Int) * 1) λa1=>(∃a2 a3 a4,zay Tryz.prog ap 41 (.pointer (some ⟨am.next,0,none⟩)) none none none=some (.slice a2 a3 a4)/\
 (Wt K 172 [.pointer aq,.int .i64 a1,.slice a2 a3 a4] ap λa5 a6=>
 (∃a7 a8 a9 ba,a5=(.tuple #[.agg (qL a7 a8 a9).toArray,.int .i64 ba])/\
 (aL a6 [.int .i64 0,.int .u64 0,.int .u32 0] 96 λbb=>(3=3)/\∃bc,stN bb a6.next 0 (qL a7 a8 a9)=some bc/\
 ((ba=0->lS bc n.next 0 λbd be bf=>(∃bg bh bi,ldN bc a6.next 0 3=some (qL bg bh bi)/\
 (∀bj,bj=bc.alloc (.cells (qL bg bh bi) 96 false)->
 ∃bk bl bm bn,zak Tryz.prog bj .append #[97,97] [.slice bd be bf,(.slice (some ⟨bc.next,0,none⟩) 1 1)]=some (.slice bk bl bm,bn)/\
 (sT bn n.next 0 (.slice bk bl bm) λbo=>((bo.get q.next=ae.get q.next/\s (z+1) bo/\∀bp,zaZ q.next bo bp->u aa bp))))))/\
 (¬ba=0->sT bc l.next 0 (.slice none 0 0) λbq=>(sT bq m.next 0 (.int .i64 ba) λbr=>((br.get q.next=ae.get q.next/\t .ret br/\∀bp,zaZ q.next br bp->u aa bp)))))))))))))))/\
 (¬an=0->sT ap l.next 0 (.slice none 0 0) λbs=>(sT bs m.next 0 (.int .i64 an) λbt=>((bt.get q.next=ae.get q.next/\t .ret bt/\∀bp,zaZ q.next bt bp->u aa bp)))))))))))/\
 (∀(JJ74:Nat->AH->Prop) (DD75:AH->Prop),(∀i l,JJ74 i l->s i l)->(∀i l m,JJ74 i l->G15 l m->JJ74 i m)->(∀l m,DD75 l->G15 l m->DD75 m)->
 (∀(bu:Nat) (bv:AH),bu < N11->JJ74 bu bv->Wy Tryz.prog K q.next (item12 bu) bv λbw bx=>((bw=.bool true/\JJ74 (bu+1) bx)\/(bw=.bool false/\DD75 bx))/\u bv bx)->
 ∀bz,JJ74 0 bz->Wt K r ([(Value.func (Fn.yield q.next) #[] #[])] ++ cap8) bz λ_ b0=>JJ74 N11 b0\/DD75 b0)/\
 (∀b1,s N11 b1->lS (b1.del q.next) n.next 0 λb2 b3 b4=>(sT (b1.del q.next) l.next 0 (.slice b2 b3 b4) λb5=>(sT b5 m.next 0 (.int .i64 0) λb6=>(lS b6 l.next 0 λb7 b8 b9=>(lI b6 m.next 0 λda=>(Q (.tuple #[.slice b7 b8 b9,.int .i64 da]) b6))))))/\
 (∀db,t .ret db->lS (db.del q.next) l.next 0 λdc dd de=>(lI (db.del q.next) m.next 0 λdf=>(Q (.tuple #[.slice dc dd de,.int .i64 df]) (db.del q.next))))/\
 (∀(dg:AX) (db:AH),dg≠.normal->t dg db->zeX dg [.ret]=true)))):
 Wt K 213 [.pointer a,.slice b d e,.slice f g j] h Q:=
  zaj (hs:=[(3,[(16,.slice none 0 0)])]) hk (Eq.mpr (by kernel_rfl) H)
end Go.Am
