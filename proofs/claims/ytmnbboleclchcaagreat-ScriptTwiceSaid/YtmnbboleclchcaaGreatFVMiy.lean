/-
  Texts of this proof, part 37. No condition.
-/
import Derived.Test.YtmnbboleclchcaaGreatFTcO
import Derived.Test.YtmnbboleclchcaaGreatRows
set_option linter.unusedSimpArgs false
set_option linter.unusedVariables false
set_option maxRecDepth 100000
namespace Go.Am
open Go.Proofs
theorem zwS {K:Xs} (hk:K 195=none) (a:Option Addr) (b d:Nat) (e:Int) (h:AH) (Q:Value->AH->Prop) (H:
 (e < 0->False)/\
 (¬e < 0->∃f,zuU Tryz.prog 97 (.slice a b d)=some (.int .i64 f)/\
 (wI (f - (b:Int)) λg=>wI (e - g) λi=>((0:Int) < i->∃j,zuU Tryz.prog 97 (.slice a b d)=some (.int .i64 j)/\
 (∃k l m,zay Tryz.prog h 97 (.slice a b d) none (some (.int .i64 j)) none=some (.slice k l m)/\
 (∃n o p q,zak Tryz.prog h .append #[97,3] [.slice k l m,.int .i64 i]=some (.slice n o p,q)/\
 (∃r s t,zay Tryz.prog q 97 (.slice n o p) none (some (.int .i64 (b:Int))) none=some (.slice r s t)/\
 (Q (.slice r s t) q)))))/\
 (¬(0:Int) < i->Q (.slice a b d) h)))):
 Wt K 195 [.slice a b d,.int .i64 e] h Q:=
  zaj (hs:=[]) hk (Eq.mpr (by kernel_rfl) H)
theorem zsG {K:Xs} (hk:K 125=none) (a:Option Addr) (b d:Nat) (h:AH) (Q:Value->AH->Prop) (H:
 ∃e:Int->Int->Nat->AH->Prop,(∃n,e 0 0 n h)/\
 ∀(f:Nat) (g:AH),∀(i:Int),∀(j:Int),e i j f g->
 (j < (b:Int)->zag a λk l=>(0<=j/\j < (b:Int)/\
 (lS g k (l+j.toNat * 1) λm o p=>(wI (i+(o:Int)) λq=>(q < 0->False)/\
 (¬q < 0->wI (j+1) λr=>∃s,s < f/\e q r s g)))))/\
 (¬j < (b:Int)->Wt K 195 [.slice none 0 0,.int .i64 i] g λt u=>
 (∃v w x,t=(.slice v w x)/\
 (∃y:Option Addr->Nat->Nat->Int->Nat->AH->Prop,(∃n,y v w x 0 n u)/\
 ∀(z:Nat) (aa:AH),∀(ab:Option Addr) (ac:Nat) (ad:Nat),∀(ae:Int),y ab ac ad ae z aa->
 (ae < (b:Int)->zag a λaf ag=>(0<=ae/\ae < (b:Int)/\
 (lS aa af (ag+ae.toNat * 1) λah ai aj=>(∃ak al am an,zak Tryz.prog aa .append #[97,97] [.slice ab ac ad,.slice ah ai aj]=some (.slice ak al am,an)/\
 (wI (ae+1) λao=>∃ap,ap < z/\y ak al am ao ap an)))))/\
 (¬ae < (b:Int)->Q (.slice ab ac ad) aa))))):
 Wt K 125 [.slice a b d] h Q:=
  zaj (hs:=[(3,[(3,.int .i64 0),(11,.int .i64 0)]),(11,[(6,.slice none 0 0),(27,.int .i64 0)])]) hk (Eq.mpr (by kernel_rfl) H)
abbrev ziU (K:Xs) (Q:Value->AH->Prop) (aq:Nat) (ar:AH) (au:AH) (av:Int) (aw:AH):Prop:=
 (wI ((aq:Int)+1) λax=>((0:Int)<=0/\0<=ax/\ax<=9223372036854775807/\(24:Int) * ax<=281474976710656)/\∀ay,ay=ar.alloc (.cells ((List.replicate (ax.toNat) [.int .i64 0,.int .u64 0,.int .u32 0]).flatten) 96 false)->
 lS ay au.next 0 λaz a0 a1=>(∃a2 a3 a4,zay Tryz.prog ay 97 (.slice az a0 a1) none (some (.int .i64 av)) none=some (.slice a2 a3 a4)/\
 (∃a5 a6 a7 a8,zak Tryz.prog ay .append #[97,97] [(.slice (some ⟨ar.next,0,none⟩) (Int.toNat 0) (ax.toNat)),.slice a2 a3 a4]=some (.slice a5 a6 a7,a8)/\
 (∃a9 ba bb,ldN a8 aw.next 0 3=some (qL a9 ba bb)/\
 (∀bc,bc=a8.alloc (.cells (qL a9 ba bb) 96 false)->
 ∃bd be bf bg,zak Tryz.prog bc .append #[97,97] [.slice a5 a6 a7,(.slice (some ⟨a8.next,0,none⟩) 1 1)]=some (.slice bd be bf,bg)/\
 (lS bg au.next 0 λbh bi bj=>(∃bk bl bm,zay Tryz.prog bg 97 (.slice bh bi bj) (some (.int .i64 av)) none none=some (.slice bk bl bm)/\
 (∃bn bo bp bq,zak Tryz.prog bg .append #[97,97] [.slice bd be bf,.slice bk bl bm]=some (.slice bn bo bp,bq)/\
 (Q (.tuple #[.slice bn bo bp,.int .i64 0]) bq)))))))))
theorem zn4 {K:Xs} (hk:K 202=none) (a:Option Addr) (b d:Nat) (e:Int) (f:Int) (g:Int) (i:AH) (Q:Value->AH->Prop) (H:
 aL i [.slice a b d] 97 λj=>∀k,k=j.alloc (.cells (qL e f g) 96 false)->
 lS k i.next 0 λl m n=>(Wt K 233 [(.int .i64 (m:Int)),(.func (.func 234) #[] #[(.pointer (some ⟨i.next,0,none⟩)),(.pointer (some ⟨j.next,0,none⟩))])] k λo p=>
 (∃q,o=(.int .i64 q)/\
 (∃r s t,ldN p j.next 0 3=some (qL r s t)/\
 (Wt K 235 [.agg (qL r s t).toArray] p λu v=>
 (((u=(.bool true)/\
 (lS v i.next 0 λw x y=>((q < (x:Int)->lS v i.next 0 λz aa ab=>(zag z λac ad=>(0<=q/\q < (aa:Int)/\
 (∃ae af ag,ldN v ac (ad+q.toNat * 3) 3=some (qL ae af ag)/\
 (∃ah ai aj,ldN v j.next 0 3=some (qL ah ai aj)/\
 (∃la27 lb28,zdL Tryz.prog 96 (.agg (qL ae af ag).toArray)=some la27/\zdL Tryz.prog 96 (.agg (qL ah ai aj).toArray)=some lb28/\
 (litsEq la27 lb28=true->Q (.tuple #[.slice none 0 0,.int .i64 131]) v)/\
 (litsEq la27 lb28=false->lS v i.next 0 λak al am=>(ziU K Q al v i q j))))))))/\
 (¬q < (x:Int)->lS v i.next 0 λan ao ap=>(ziU K Q ao v i q j)))))\/(u=(.bool false)/\
 (Q (.tuple #[.slice none 0 0,.int .i64 131]) v))))))))):
 Wt K 202 [.slice a b d,.agg (qL e f g).toArray] i Q:=
  zaj (hs:=[]) hk (Eq.mpr (by kernel_rfl) H)
theorem zsH {K:Xs} (hk:K 233=none) (a:Int) (b:Option Addr) (d:Option Addr) (h:AH) (Q:Value->AH->Prop) (H:
 ∃e:Int->Int->Nat->AH->Prop,(∃n,e 0 a n h)/\
 ∀(f:Nat) (g:AH),∀(i:Int),∀(j:Int),e i j f g->
 (i < j->wI (i+j) λk=>∀l:Int,l=IntKind.wrap .u64 k->∃m,zaV .shr .u64 l 1=some (.int .u64 m)/\
 (wI m λo=>Wt K 234 [.int .i64 o,.pointer b,.pointer d] g λp q=>
 (((p=(.bool true)/\
 (∃r,r < f/\e i o r q))\/(p=(.bool false)/\
 (wI (o+1) λs=>∃r,r < f/\e s j r q))))))/\
 (¬i < j->Q (.int .i64 i) g)):
 Wt K 233 [.int .i64 a,(.func (.func 234) #[] #[.pointer b,.pointer d])] h Q:=
  zaj (hs:=[(2,[(5,.int .i64 0),(6,.int .i64 0)])]) hk (Eq.mpr (by kernel_rfl) H)
theorem zk0 {K:Xs} (hk:K 234=none) (a:Int) (b:Option Addr) (d:Option Addr) (h:AH) (Q:Value->AH->Prop) (H:
 zag b λe f=>(lS h e f λg i j=>(zag g λk l=>(0<=a/\a < (i:Int)/\
 (∃m n o,ldN h k (l+a.toNat * 3) 3=some (qL m n o)/\
 (zag d λp q=>(∃r s t,ldN h p q 3=some (qL r s t)/\
 (Wt K 209 [.agg (qL m n o).toArray,.agg (qL r s t).toArray] h λu v=>
 (((u=(.bool true)/\
 (Q (.bool false) v))\/(u=(.bool false)/\
 (Q (.bool true) v)))))))))))):
 Wt K 234 [.int .i64 a,.pointer b,.pointer d] h Q:=
  zaj (hs:=[]) hk (Eq.mpr (by kernel_rfl) H)
abbrev zcG (K:Xs) (Q:Value->AH->Prop) (w:Int) (x:Option Addr) (y:Nat) (z:Nat) (aa:AH) (ab:AH) (ac:Int):Prop:=
 (Wt K 129 [.agg (bC w x y z).toArray] aa λad ae=>
 (∃af ag ah ai,ad=(.agg (bC af ag ah ai).toArray)/\
 ((2=2)/\∃aj,stN ae ab.next 0 (bC af ag ah ai)=some aj/\
 (∃ak al am an,ldN aj ab.next 0 2=some (bC ak al am an)/\
 (Q (.tuple #[.agg (bC ak al am an).toArray,.int .i64 ac]) aj)))))
theorem ziV {K:Xs} (hk:K 95=none) (a:Int) (b:Option Addr) (d e:Nat) (f:ByteArray) (g:AH) (Q:Value->AH->Prop) (H:
 ∀i,i=g.alloc (.cells (bC a b d e) 91 false)->
 aL i [.int .u64 0,.slice none 0 0] 91 λj=>∃k l m o,ldN j g.next 0 2=some (bC k l m o)/\
 (Wt K 144 [.agg (bC k l m o).toArray,.string f] j λp q=>
 (∃r s,p=(.tuple #[.int .i64 r,.int .i64 s])/\
 ((s=0->lS q g.next 1 λt u v=>(zag t λw x=>(0<=r/\r < (u:Int)/\
 (lU q w (x+r.toNat * 11) λy=>(aL q [.int .u64 0] 62 λz=>sT z q.next 0 (.int .u64 y) λaa=>(lS aa g.next 1 λab ac ad=>(lS aa g.next 1 λae af ag=>(lU aa q.next 0 λah=>(Wt K 35 [.slice ae af ag,.int .u64 ah] aa λai aj=>
 (∃ak,ai=(.int .u64 ak)/\
 (Wt K 145 [.slice ab ac ad,.int .u64 ak] aj λal am=>
 (∃an ao ap aq ar au av aw ax ay az a0 a1,((al=(.tuple #[.agg (sC an ao ap aq ar au av aw ax ay az a0 a1).toArray,.bool true])/\
 (∀a2,a2=am.alloc (.cells (zC) 99 false)->
 (11=11)/\∃a3,stN a2 am.next 0 (sC an ao ap aq ar au av aw ax ay az a0 a1)=some a3/\
 ((ld1 aa g.next 1=some (.slice ab ac ad))/\
 ((ld1 aj g.next 1=some (.slice ab ac ad))/\
 (lS a3 g.next 1 λa4 a5 a6=>(lU a3 am.next 3 λa7=>(Wt K 146 [.slice a4 a5 a6,.int .u64 a7] a3 λa8 a9=>
 (∃ba bb bc,a8=(.slice ba bb bc)/\
 (lU a9 am.next 0 λbd=>(Wt K 147 [.slice ba bb bc,.int .u64 bd] a9 λbe bf=>
 (∃bg,be=(.int .i64 bg)/\
 (∀bh:Int,bh=(if 0 > (bg:Int) then 0 else (bg:Int))->∃bi bj bk,zay Tryz.prog bf 70 (.slice ba bb bc) (some (.int .i64 bh)) none none=some (.slice bi bj bk)/\
 (∃bl bm bn bo,ldN bf g.next 0 2=some (bC bl bm bn bo)/\
 (Wt K 129 [.agg (bC bl bm bn bo).toArray] bf λbp bq=>
 (∃br bs bt bu,bp=(.agg (bC br bs bt bu).toArray)/\
 (aL bq [.int .u64 0,.slice none 0 0] 91 λbv=>(2=2)/\∃bw,stN bv bq.next 0 (bC br bs bt bu)=some bw/\
 (∃bx:Int->Nat->AH->Prop,(∃n,bx 0 n bw)/\
 ∀(bz:Nat) (b0:AH),∀(b1:Int),bx b1 bz b0->
 (b1 < (bj:Int)->zag bi λb2 b3=>(0<=b1/\b1 < (bj:Int)/\
 (lU b0 b2 (b3+b1.toNat * 1) λb4=>(lS b0 g.next 1 λb5 b6 b7=>(Wt K 148 [.slice b5 b6 b7,.int .u64 b4] b0 λb8 b9=>
 (∃da,b8=(.int .i64 da)/\
 (aL b9 [.int .i64 0] 3 λdb=>sT db b9.next 0 (.int .i64 da) λdc=>(lS dc g.next 1 λdd de df=>(Wt K 149 [.slice dd de df,(.func (.func 150) #[] #[(.pointer (some ⟨q.next,0,none⟩)),(.pointer (some ⟨g.next,0,none⟩)),(.pointer (some ⟨b9.next,0,none⟩))])] dc λdg dh=>
 (((dg=(.bool true)/\
 (∃di dj dk dl,ldN dh g.next 0 2=some (bC di dj dk dl)/\
 (zcG K Q di dj dk dl dh i 171)))\/(dg=(.bool false)/\
 (lS dh bq.next 1 λdm dn dp=>(lI dh b9.next 0 λdq=>(lU dh q.next 0 λdr=>(zag dm λds dt=>(0<=dq/\dq < (dn:Int)/\
 (sT dh ds ((dt+dq.toNat * 11)+3) (.int .u64 dr) λdu=>(wI (b1+1) λdv=>∃dw,dw < bz/\bx dv dw du)))))))))))))))))))/\
 (¬b1 < (bj:Int)->∃dx dy dz d0,ldN b0 bq.next 0 2=some (bC dx dy dz d0)/\
 ((2=2)/\∃d1,stN b0 i.next 0 (bC dx dy dz d0)=some d1/\
 (∃d2 d3 d4 d5,ldN d1 i.next 0 2=some (bC d2 d3 d4 d5)/\
 (Q (.tuple #[.agg (bC d2 d3 d4 d5).toArray,.int .i64 0]) d1)))))))))))))))))))))\/(al=(.tuple #[.agg (sC an ao ap aq ar au av aw ax ay az a0 a1).toArray,.bool false])/\
 (∀d6,d6=am.alloc (.cells (zC) 99 false)->
 (11=11)/\∃d7,stN d6 am.next 0 (sC an ao ap aq ar au av aw ax ay az a0 a1)=some d7/\
 ((ld1 aa g.next 1=some (.slice ab ac ad))/\
 ((ld1 aj g.next 1=some (.slice ab ac ad))/\
 (∃d8 d9 ea eb,ldN d7 g.next 0 2=some (bC d8 d9 ea eb)/\
 (zcG K Q d8 d9 ea eb d7 i 174)))))))))))))))))))/\
 (¬s=0->∃ec ed ee ef,ldN q g.next 0 2=some (bC ec ed ee ef)/\
 (zcG K Q ec ed ee ef q i s)))))):
 Wt K 95 [.agg (bC a b d e).toArray,.string f] g Q:=
  zaj (hs:=[(12,[(63,.int .i64 0)])]) hk (Eq.mpr (by kernel_rfl) H)
theorem ziW {K:Xs} (hk:K 149=none) (a:Option Addr) (b d:Nat) (e:Option Addr) (f:Option Addr) (g:Option Addr) (h:AH) (Q:Value->AH->Prop) (H:
 Wt K 204 [.slice a b d,(.func (.func 150) #[] #[.pointer e,.pointer f,.pointer g])] h λi j=>
 (∃k,i=(.int .i64 k)/\
 ((0<=k->Q (.bool true) j)/\
 (¬0<=k->Q (.bool false) j)))):
 Wt K 149 [.slice a b d,(.func (.func 150) #[] #[.pointer e,.pointer f,.pointer g])] h Q:=
  zaj (hs:=[]) hk (Eq.mpr (by kernel_rfl) H)
theorem zgC {K:Xs} (hk:K 150=none) (a:Int) (b:ByteArray) (d:Bool) (e:Int) (f:Int) (g:Int) (i:Int) (j:Int) (k:Int) (l:Int) (m:Option Addr) (n o:Nat) (p:Option Addr) (q:Option Addr) (r:Option Addr) (h:AH) (Q:Value->AH->Prop) (H:
 aL h (sC a b d e f g i j k l m n o) 99 λs=>((ld1 s h.next 2=some (.bool true)/\
 (lU s h.next 3 λt=>(zag p λu v=>(lU s u v λw=>((t=w->∃x,ld1 s h.next 1=some (.string x)/\
 (zag q λy z=>(lS s y (z+1) λaa ab ac=>(zag r λad ae=>(lI s ad ae λaf=>(zag aa λag ah=>(0<=af/\af < (ab:Int)/\
 (∃ai,ld1 s ag ((ah+af.toNat * 11)+1)=some (.string ai)/\
 ((x=ai->Q (.bool true) s)/\
 (¬x=ai->Q (.bool false) s))))))))))/\
 (¬t=w->Q (.bool false) s))))))\/(ld1 s h.next 2=some (.bool false)/\
 (Q (.bool false) s)))):
 Wt K 150 [.agg (sC a b d e f g i j k l m n o).toArray,.pointer p,.pointer q,.pointer r] h Q:=
  zaj (hs:=[]) hk (Eq.mpr (by kernel_rfl) H)
theorem zmG {K:Xs} (hk:K 204=none) (a:Option Addr) (b d:Nat) (e:Option Addr) (f:Option Addr) (g:Option Addr) (h:AH) (Q:Value->AH->Prop) (H:
 ∃i:Int->Nat->AH->Prop,(∃n,i 0 n h)/\
 ∀(j:Nat) (k:AH),∀(l:Int),i l j k->
 (l < (b:Int)->zag a λm o=>(0<=l/\l < (b:Int)/\
 (∃p q r s t u v w x y z aa ab,ldN k m (o+l.toNat * 11) 11=some (sC p q r s t u v w x y z aa ab)/\
 (Wt K 150 [.agg (sC p q r s t u v w x y z aa ab).toArray,.pointer e,.pointer f,.pointer g] k λac ad=>
 (((ac=(.bool true)/\
 (Q (.int .i64 l) ad))\/(ac=(.bool false)/\
 (wI (l+1) λae=>∃af,af < j/\i ae af ad))))))))/\
 (¬l < (b:Int)->Q (.int .i64 (-1)) k)):
 Wt K 204 [.slice a b d,(.func (.func 150) #[] #[.pointer e,.pointer f,.pointer g])] h Q:=
  zaj (hs:=[(2,[(8,.int .i64 0)])]) hk (Eq.mpr (by kernel_rfl) H)
theorem zsI {K:Xs} (hk:K 153=none) (a:Option Addr) (b d:Nat) (e:Int) (f:Int) (h:AH) (Q:Value->AH->Prop) (H:
 ∃g i j,zay Tryz.prog h 89 (.slice a b d) (some (.int .i64 e)) (some (.int .i64 f)) (some (.int .i64 (b:Int)))=some (.slice g i j)/\
 ((e=f->Q (.slice a b d) h)/\
 (¬e=f->∃k l m,zay Tryz.prog h 89 (.slice a b d) none (some (.int .i64 e)) none=some (.slice k l m)/\
 (∃n o p,zay Tryz.prog h 89 (.slice a b d) (some (.int .i64 f)) none none=some (.slice n o p)/\
 (∃q r s t,zak Tryz.prog h .append #[89,89] [.slice k l m,.slice n o p]=some (.slice q r s,t)/\
 (∃u v w,zay Tryz.prog t 89 (.slice q r s) (some (.int .i64 (r:Int))) (some (.int .i64 (b:Int))) none=some (.slice u v w)/\
 (∃x,zak Tryz.prog t .clear #[89] [.slice u v w]=some (undef,x)/\
 (Q (.slice q r s) x)))))))):
 Wt K 153 [.slice a b d,.int .i64 e,.int .i64 f] h Q:=
  zaj (hs:=[]) hk (Eq.mpr (by kernel_rfl) H)
theorem ziX {K:Xs} (hk:K 123=none) (a:Int) (b:Option Addr) (d e:Nat) (h:AH) (Q:Value->AH->Prop) (H:
 ((281474976710655:Int) < a->Q (.bool false) h)/\
 (¬(281474976710655:Int) < a->((32:Int) < (d:Int)->Q (.bool false) h)/\
 (¬(32:Int) < (d:Int)->∀f,f=h.alloc (.map [] 0)->
 ∃g:Int->Int->Nat->AH->Prop,(∃n,g 0 0 n f)/\
 ∀(i:Nat) (j:AH),∀(k:Int),∀(l:Int),g k l i j->
 (l < (d:Int)->zag b λm o=>(0<=l/\l < (d:Int)/\
 (∃p q r s t u v w x y z aa ab,ldN j m (o+l.toNat * 11) 11=some (sC p q r s t u v w x y z aa ab)/\
 (Wt K 189 [.agg (sC p q r s t u v w x y z aa ab).toArray] j λac ad=>
 (((ac=(.bool true)/\
 (lU ad m (o+l.toNat * 11) λae=>((ae<=k->Q (.bool false) ad)/\
 (¬ae<=k->lU ad m (o+l.toNat * 11) λaf=>((a<=af->Q (.bool false) ad)/\
 (¬a<=af->lU ad m (o+l.toNat * 11) λag=>(Wt K 190 [(.pointer (some ⟨m,(o+l.toNat * 11),none⟩))] ad λah ai=>
 (∃aj ak,ah=(.agg #[.int .u64 aj,.string ak])/\
 (∀al,al=ai.alloc (.cells [.int .u64 0,(.string (ByteArray.mk #[]))] 265 false)->
 (2=2)/\∃am,stN al ai.next 0 [.int .u64 aj,.string ak]=some am/\
 (∃an ao,ldN am ai.next 0 2=some [.int .u64 an,.string ao]/\
 (∃ap aq,zcr Tryz.prog am 263 (.map (some h.next)) (.agg #[.int .u64 an,.string ao]) true=some (.tuple #[.int .i64 ap,.bool aq])/\
 (cond aq (Q (.bool false) am)
 (∃ar au,ldN am ai.next 0 2=some [.int .u64 ar,.string au]/\
 (∃av,zba Tryz.prog am 263 (.map (some h.next)) (.agg #[.int .u64 ar,.string au]) (.int .i64 l)=some av/\
 (wI (l+1) λaw=>∃ax,ax < i/\g ag aw ax av)))))))))))))))\/(ac=(.bool false)/\
 (Q (.bool false) ad))))))))/\
 (¬l < (d:Int)->∃ay:Int->Nat->AH->Prop,(∃n,ay 0 n j)/\
 ∀(az:Nat) (a0:AH),∀(a1:Int),ay a1 az a0->
 (a1 < (d:Int)->zag b λa2 a3=>(0<=a1/\a1 < (d:Int)/\
 (Wt K 191 [.slice b d e,(.pointer (some ⟨a2,(a3+a1.toNat * 11),none⟩))] a0 λa4 a5=>
 (((a4=(.bool true)/\
 (zag b λa6 a7=>(0<=a1/\a1 < (d:Int)/\
 (Wt K 192 [.slice b d e,(.pointer (some ⟨a6,(a7+a1.toNat * 11),none⟩))] a5 λa8 a9=>
 (((a8=(.bool true)/\
 (wI (a1+1) λba=>∃bb,bb < az/\ay ba bb a9))\/(a8=(.bool false)/\
 (Q (.bool false) a9))))))))\/(a4=(.bool false)/\
 (Q (.bool false) a5)))))))/\
 (¬a1 < (d:Int)->Q (.bool true) a0))))):
 Wt K 123 (bC a b d e) h Q:=
  zaj (hs:=[(6,[(6,.int .u64 0),(23,.int .i64 0)]),(19,[(69,.int .i64 0)])]) hk (Eq.mpr (by kernel_rfl) H)
theorem zsJ {K:Xs} (hk:K 239=none) (a:Option Addr) (b d:Nat) (e:Int) (h:AH) (Q:Value->AH->Prop) (H:
 aL h [.slice a b d] 34 λf=>aL f [.int .i64 e] 3 λg=>lI g f.next 0 λi=>((i < 1->False)/\
 (¬i < 1->Q (.func (.func 258) #[] #[(.pointer (some ⟨h.next,0,none⟩)),(.pointer (some ⟨f.next,0,none⟩))]) g))):
 Wt K 239 [.slice a b d,.int .i64 e] h Q:=
  zaj (hs:=[]) hk (Eq.mpr (by kernel_rfl) H)
theorem zn5 {K:Xs} (hk:K 258=none) (ya0:Nat) (a:Option Addr) (b:Option Addr) (h:AH) (Q:Value->AH->Prop) (H:
 ∃d:Int->Nat->AH->Prop,(∃n,d 0 n h)/\
 ∀(e:Nat) (f:AH),∀(g:Int),d g e f->
 zag a λi j=>(lS f i j λk l m=>((g < (l:Int)->zag b λo p=>(lI f o p λq=>(zag a λr s=>(lS f r s λt u v=>(∃w x y,zay Tryz.prog f 34 (.slice t u v) (some (.int .i64 g)) none none=some (.slice w x y)/\
 (∀z:Int,z=(if (x:Int) < (q:Int) then (x:Int) else (q:Int))->zag a λaa ab=>(lS f aa ab λac ad ae=>(wI (g+z) λaf=>wI (g+z) λag=>∃ah ai aj,zay Tryz.prog f 34 (.slice ac ad ae) (some (.int .i64 g)) (some (.int .i64 af)) (some (.int .i64 ag))=some (.slice ah ai aj)/\
 (Wy Tryz.prog K ya0 [.slice ah ai aj] f λak al=>∃am,ak=.bool am/\
 (cond (!am) (Q (.tuple #[]) al)
 (zag b λan ao=>(lI al an ao λap=>(wI (g+ap) λaq=>∃ar,ar < e/\d aq ar al)))))))))))))/\
 (¬g < (l:Int)->Q (.tuple #[]) f)))):
 Wt K 258 [(Value.func (Fn.yield ya0) #[] #[]),.pointer a,.pointer b] h Q:=
  zaj (hs:=[(1,[(4,.int .i64 0)])]) hk (Eq.mpr (by kernel_rfl) H)
theorem zsK {K:Xs} (hk:K 240=none) (a:Option Addr) (b d:Nat) (e:Int) (h:AH) (Q:Value->AH->Prop) (H:
 aL h [.slice a b d] 97 λf=>aL f [.int .i64 e] 3 λg=>lI g f.next 0 λi=>((i < 1->False)/\
 (¬i < 1->Q (.func (.func 259) #[] #[(.pointer (some ⟨h.next,0,none⟩)),(.pointer (some ⟨f.next,0,none⟩))]) g))):
 Wt K 240 [.slice a b d,.int .i64 e] h Q:=
  zaj (hs:=[]) hk (Eq.mpr (by kernel_rfl) H)
theorem zqj {K:Xs} (hk:K 259=none) (ya0:Nat) (a:Option Addr) (b:Option Addr) (h:AH) (Q:Value->AH->Prop) (H:
 ∃d:Int->Nat->AH->Prop,(∃n,d 0 n h)/\
 ∀(e:Nat) (f:AH),∀(g:Int),d g e f->
 zag a λi j=>(lS f i j λk l m=>((g < (l:Int)->zag b λo p=>(lI f o p λq=>(zag a λr s=>(lS f r s λt u v=>(∃w x y,zay Tryz.prog f 97 (.slice t u v) (some (.int .i64 g)) none none=some (.slice w x y)/\
 (∀z:Int,z=(if (x:Int) < (q:Int) then (x:Int) else (q:Int))->zag a λaa ab=>(lS f aa ab λac ad ae=>(wI (g+z) λaf=>wI (g+z) λag=>∃ah ai aj,zay Tryz.prog f 97 (.slice ac ad ae) (some (.int .i64 g)) (some (.int .i64 af)) (some (.int .i64 ag))=some (.slice ah ai aj)/\
 (Wy Tryz.prog K ya0 [.slice ah ai aj] f λak al=>∃am,ak=.bool am/\
 (cond (!am) (Q (.tuple #[]) al)
 (zag b λan ao=>(lI al an ao λap=>(wI (g+ap) λaq=>∃ar,ar < e/\d aq ar al)))))))))))))/\
 (¬g < (l:Int)->Q (.tuple #[]) f)))):
 Wt K 259 [(Value.func (Fn.yield ya0) #[] #[]),.pointer a,.pointer b] h Q:=
  zaj (hs:=[(1,[(4,.int .i64 0)])]) hk (Eq.mpr (by kernel_rfl) H)
theorem zuB:und cx0 89=some (.slice 99):=by kernel_rfl
theorem zyf:(inf cx0 99).isSome=true:=by kernel_rfl
theorem zk1 {hp:AH} {b off n c:Nat} (hc:c < zai) (hn:n<=c) {lo hi' : Option Value} {l u:Int} (hl:zp3 lo 0 l) (hh:zp3 hi' n u) (h1:0<=l) (h2:l<=u) (h3:u<=n):
 zay Tryz.prog hp 89 (.slice (some ⟨b,off,none⟩) n c) lo hi' none=some (.slice (some ⟨b,if c=l.toNat then off else off+l.toNat * 11,none⟩) (u - l).toNat (c - l.toNat)):=by
 have hb:=zb2 (cap:=c) hl hh h1 h2 h3 hn
 have e11:Tryz.prog.cellsOf 99=11:=by kernel_rfl
 unfold zay
 rw[show Tryz.prog.underlying 89=some (.slice 99) from zat zuB]
 simp only
 rw[if_pos (by rfl),if_neg (by omega),if_pos hc,hb,e11,show (u - l).toNat=u.toNat - l.toNat by omega]
theorem zsL {hp:AH} {b off n c:Nat} (hc:c < zai) {l u:Int} (h1:0<=l) (h2:l<=u) (h3:u<=c):
 zay Tryz.prog hp 89 (.slice (some ⟨b,off,none⟩) n c) (some (.int .i64 l)) (some (.int .i64 u)) none=some (.slice (some ⟨b,if c=l.toNat then off else off+l.toNat * 11,none⟩) (u - l).toNat (c - l.toNat)):=by
 have e:=zk1 (hp:=hp) (b:=b) (off:=off) (n:=u.toNat) (c:=c) hc (by omega) (lo:=some (.int .i64 l)) (hi':=some (.int .i64 u)) (.inr ⟨_,rfl⟩) (.inr ⟨_,rfl⟩) h1 h2 (by omega)
 rw[<-e]
 unfold zay
 rw[show Tryz.prog.underlying 89=some (.slice 99) from zat zuB]
 simp only
 rw[if_pos (by rfl),if_neg (by omega),if_pos hc,if_pos (by rfl),if_neg (by omega),if_pos hc]
 rfl
theorem zsM {S:TY} {g:Int} {h:AH} (w:WT cx0 S g h) {b:Nat} {e:TypeId} {cc:Nat->Option Nat} (hb:S.ty b=some (false,e,cc)) {cs:List Value} (ht:zau cx0 S cc cs):WT cx0 S g (h.set b (.cells cs e false)):=by
 have ns:=zam b h (.cells cs e false)
 obtain⟨k1,k2, -⟩:=w.1 b _ _ _ hb
 refine⟨λd ro e' c' hd=>?_,λd hd=>by exact w.2.1 d hd,ziL.dfr _ _ _ _ w.2.2 (λd hd=>ns.2 d λz=>k2 (z▸hd)) (by simp)⟩
 obtain⟨m1,m2,m3⟩:=w.1 d ro e' c' hd
 by_cases hdb:d=b
 all_goals simp_all
theorem zDD:za3 Tryz.prog 89 99 11 112:=zaW (by kernel_rfl)
def zvm:List Value:=[.int .u64 0,.string ⟨#[]⟩,.bool false,.int .u64 0,.int .u64 0,.int .u64 0,.int .i64 0,.int .i64 0,.int .u64 0,.int .u32 0,.slice none 0 0]
theorem zwT:zao Tryz.prog 99=some zvm:=by kernel_rfl
theorem zjY {S:TY}:zau cx0 S (zcO cx0 99) zvm:=λi t hi=>by
 unfold zcO at hi
 rw[ztm] at hi
 have iu:okC cx0 S 62 (.int .u64 0):=zuw ⟨by decide,by decide⟩
 have ii:okC cx0 S 3 (.int .i64 0):=by unfold okC; exact⟨0,rfl,by decide,by decide⟩
 have i4:okC cx0 S 94 (.int .u32 0):=by unfold okC; exact⟨0,rfl,by decide,by decide⟩
 have ib:okC cx0 S 4 (.bool false):=by grind[okC,ck4]
 have is:okC cx0 S 9 (.string ⟨#[]⟩):=by unfold okC; exact⟨_,rfl,by decide⟩
 have il:okC cx0 S 97 (.slice none 0 0):=by unfold okC; exact⟨0,Qg _,by omega,none,0,rfl,by simp⟩
 match i,hi with
 | 0,hi=>cases hi; exact⟨_,rfl,iu⟩
 | 1,hi=>cases hi; exact⟨_,rfl,is⟩
 | 2,hi=>cases hi; exact⟨_,rfl,ib⟩
 | 3,hi=>cases hi; exact⟨_,rfl,iu⟩
 | 4,hi=>cases hi; exact⟨_,rfl,iu⟩
 | 5,hi=>cases hi; exact⟨_,rfl,iu⟩
 | 6,hi=>cases hi; exact⟨_,rfl,ii⟩
 | 7,hi=>cases hi; exact⟨_,rfl,ii⟩
 | 8,hi=>cases hi; exact⟨_,rfl,iu⟩
 | 9,hi=>cases hi; exact⟨_,rfl,i4⟩
 | 10,hi=>cases hi; exact⟨_,rfl,il⟩
 | i+11,hi=>simp_all
theorem zDE:Vl 153 zBm:=zaY λρ g Q H S hp vs hw hg=>by
 obtain⟨(a:Nat),(b:Int),(c:Int),_⟩:=ρ
 obtain⟨x,y,z,rfl,gx,gy,gz⟩:=zqd (a:=.sl true false true 99 a) (b:=.int .i64 b) (c:=.int .i64 c) hg
 simp only[gam] at gx gy gz
 obtain⟨rfl,gy⟩:=gy
 obtain⟨rfl,gz⟩:=gz
 obtain⟨(hbig:a<=big),⟨h1,h2,h3,h4⟩,H⟩:=H
 have hbig' : a<=1048576:=hbig
 have gx0:=gx
 obtain⟨hn,p,ca,rfl,k⟩:=gx
 rcases k with ⟨-,rfl, -⟩ | ⟨bk,off,ro,e,cc,rfl,k1,k2,k3, -,⟨k5,k6,k7⟩ | ⟨-,q, -⟩⟩
 ·omega
 rotate_left
 ·grind
 obtain rfl:=k3 rfl
 have k7:=k7 rfl
 obtain⟨m1,m2,al,r,m3,m4,m5⟩:=hw.1 bk _ _ _ k1
 obtain rfl:=m4 rfl
 rw[zlc] at k2 k7
 have lenal:off+ca * 11<=al.length:=by
  have:=zmn (X:=cx0) (T:=99) (m:=ca) m5 (by rw[zlc]; omega) (by grind[zlc])
  grind[zlc]
 obtain⟨x0,e0,s0⟩:=zmk (σ:=⟨Tr.ofList [],[],g⟩) ziL zuB zyf (by rfl) hw gx0 (lo:=some (.int .i64 b)) (kd:=.i64) (kd':=.i64) (l:=b) (u:=c) (m:=a) (.inr ⟨_,rfl⟩) h1 h2 h3 (Jd _) h4
 obtain⟨-,p0,c0,rfl, -⟩:=s0
 have fin:∀{m:Nat} {h' : AH},zaZ bk hp h'->WT cx0 S g h'->m=((a:Int) - c+b).toNat->Fin S g hp false Q (.slice (some ⟨bk,off,none⟩) m ca) h':=λ{m h'} nr w em=>by
  refine⟨S,.sl true false false 99 m,g,Xt.refl _ _,w,Q1 nr.1.symm,λd hd q=>?_,?_,rfl,by grind⟩
  ·rcases q with q | q
   ·grind
   ·exact nr.2 d λz=>by grind
  ·exact⟨by omega,_,ca,rfl,by grind⟩
 refine zsI (xb rfl) _ _ _ _ _ hp _ ⟨_,_,_,e0,by grind[zaZ.refl],λq=>⟨_,_,_,zk1 k5 k6 (lo:=none) (hi':=some (.int .i64 b)) (l:=0) (u:=b) (.inl ⟨rfl,rfl⟩) (.inr ⟨_,rfl⟩) (by omega) h1 (by omega),_,_,_,zk1 k5 k6 (lo:=some (.int .i64 c)) (hi':=none) (l:=c) (u:=a) (.inr ⟨_,rfl⟩) (.inl ⟨rfl,rfl⟩) (by omega) h3 (by omega),?_⟩⟩
 have ha:∀{m n:Nat},n+m<=ca->∀j,j < m->AtT cx0 cc (off+n * 11+j * sz cx0 99) 99:=λ{m n} hm j hj=>by
  have:=k7 (n+j) (by omega)
  grind[zlc]
 obtain⟨i,hi⟩:=Option.isSome_iff_exists.1 zyf
 obtain⟨hu,i',z,hi',hz,hzs,hpos,hsz,hby⟩:=zDD
 obtain rfl:i=i':=by grind[zcy,cx0]
 have bl:b.toNat * 11<=ca * 11:=by omega
 have o0:(if ca=(0:Int).toNat then off else off+(0:Int).toNat * 11)=off:=by simp
 rw[o0,show (b - 0).toNat=b.toNat by omega,show ca - (0:Int).toNat=ca by simp]
 obtain⟨m,hm⟩:∃m,m=((a:Int) - c).toNat:=⟨_,rfl⟩
 rw[<-hm]
 have ho:firstC hp 11 b.toNat (.slice (some ⟨bk,off,none⟩) b.toNat ca)=some ((al.drop off).take (b.toNat * 11)):=zaz.firstC (sz:=11) ⟨by grind,by grind⟩ (by simp)
 have hnw:firstC hp 11 m (.slice (some ⟨bk,if ca=c.toNat then off else off+c.toNat * 11,none⟩) m (ca - c.toNat))=some ((al.drop (off+c.toNat * 11)).take (m * 11)):=by
  rcases QW m with z | z
  ·grind[firstC]
  ·exact zaz.firstC (sz:=11) ⟨by grind,by grind⟩ (by simp)
 have fit:=ze6 (X:=cx0) (h:=hp) (x:=.slice (some ⟨bk,if ca=c.toNat then off else off+c.toNat * 11,none⟩) m (ca - c.toNat)) zuB hi hz hzs hpos rfl (by rw[hsz]; omega) (by rw[hsz]; omega) (by grind) (by grind) k5 (by omega) m3 (by grind)
 have T1:zau cx0 S (zaJ cx0 99 m) ((al.drop (off+c.toNat * 11)).take (m * 11)):=by grind[zd8,zlc]
 have T2:=zau.updW (X:=cx0) (T:=99) (off:=off+b.toNat * 11) m5 (ha (by omega)) (by grind) (by grind[zlc]) T1
 obtain⟨h12,k12,q12⟩:∃h12,zaM Tryz.prog hp 89 false (.slice (some ⟨bk,off,none⟩) b.toNat ca) (.slice (some ⟨bk,if ca=c.toNat then off else off+c.toNat * 11,none⟩) m (ca - c.toNat))=some (.slice (some ⟨bk,off,none⟩) (b.toNat+m) ca,h12)/\(h12=hp\/h12=hp.set bk (.cells (al.take (off+b.toNat * i.size) ++ (al.drop (off+c.toNat * 11)).take (m * 11) ++ al.drop (off+b.toNat * i.size+((al.drop (off+c.toNat * 11)).take (m * 11)).length)) e false)):=by
  refine⟨_,fit,?_⟩
  grind
 rw[hsz] at q12
 obtain⟨cs,w12,t12,n12,l12⟩:∃cs,h12.get bk=some (.cells cs e false)/\zau cx0 S cc cs/\zaZ bk hp h12/\off+ca * 11<=cs.length/\WT cx0 S g h12:=by
  rcases q12 with rfl | rfl
  ·grind[zaZ.refl]
  ·exact⟨_,zaf _ _ _,T2,zam _ _ _,by simp; omega,zsM hw k1 T2⟩
 obtain⟨l12,wt12⟩:=l12
 refine⟨_,_,_,h12,(zaO hu).trans k12,_,_,_,zsL k5 (by omega) (by omega) (by omega),?_⟩
 obtain⟨d,hd⟩:∃d,((a:Int) - ((b.toNat+m:Nat):Int)).toNat=d+1:=⟨((a:Int) - ((b.toNat+m:Nat):Int)).toNat - 1,by omega⟩
 rw[hd,show (((b.toNat+m:Nat):Int)).toNat=b.toNat+m by omega,if_neg (by omega)]
 have hz0:(List.replicate (d+1) zvm).flatten.length=(d+1) * 11:=ze5
 have hcl:ze9 Tryz.prog h12 89 (.slice (some ⟨bk,off+(b.toNat+m) * 11,none⟩) (d+1) (ca - (b.toNat+m)))=some (undef,h12.set bk (.cells (cs.take (off+(b.toNat+m) * 11) ++ (List.replicate (d+1) zvm).flatten ++ cs.drop (off+(b.toNat+m) * 11+(List.replicate (d+1) zvm).flatten.length)) e false)):=by
  unfold ze9
  rw[hu]
  simp only[zwT]
  rw[if_pos (by kernel_rfl)]
  unfold zap
  rw[w12]
  grind
 refine⟨_,(show zak Tryz.prog h12 .clear #[89] _=_ from hcl),fin (n12.trans (zam _ _ _)) (zsM wt12 k1 (zau.updW (X:=cx0) (T:=99) (m:=d+1) t12 (ha (by omega)) (by omega) (by grind[zlc]) (zfD (X:=cx0) (T:=99) (by rfl) zjY))) (by omega)⟩
end Go.Am
