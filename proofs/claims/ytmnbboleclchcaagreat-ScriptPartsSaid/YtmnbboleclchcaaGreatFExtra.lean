/-
  Texts of this proof, part 51. No condition.
-/
import Derived.Test.YtmnbboleclchcaaGreatFCScrR5
import Derived.OpenShut
import Derived.SizedLaws
import Derived.WalkKit
import Derived.ProofKit
import Derived.Test.YtmnbboleclchcaaGreatRows
set_option linter.unusedVariables false
set_option linter.unusedSimpArgs false
set_option maxRecDepth 100000
namespace Go.Am
open Go.Proofs
section
variable {P:Program} {h:AH}
theorem zFA {P:Program} {g:Nat} {t1 t2:TypeId} {h:AH}:∀{vs:List Value},RdA P h g [t1,t2] vs->∃a b,vs=[a,b]/\RdV P h g t1 a/\RdV P h g t2 b
 | [a,b],r=>⟨a,b,rfl,r.1,r.2.1⟩
theorem RdL.rep {f:TypeId->List Value->Prop} {e:TypeId}:∀{n:Nat} {cs:List Value},RdL P f (List.replicate n e) cs->cs.length=n * P.cellsOf e/\∀i,i < n->f e ((cs.drop (i * P.cellsOf e)).take (P.cellsOf e))
 | 0,cs,k=>⟨by rw[show cs=[] from k]; simp,by omega⟩
 | n+1,cs,k=>by
   obtain⟨k1,k2,k3⟩:=k
   obtain⟨r1,r2⟩:=RdL.rep (n:=n) k3
   refine⟨by grind,λi hi=>?_⟩
   cases i<;>grind[QB]
theorem zmJ:∀al:List Value,(∀v∈al,∃m:Nat,v=.int .u8 m/\m < 256)->∃data:List Nat,al=za6 .u8 data/\∀x∈data,x < 256
 | [],_=>⟨[],rfl,by simp⟩
 | v :: al,h=>by
   obtain⟨m,rfl,hm⟩:=h v QM
   obtain⟨ds,rfl,hd⟩:=zmJ al λx hx=>h x (QG _ hx)
   exact⟨m :: ds,rfl,by grind⟩
theorem zyF {m:Int} (h:(Lit.int .u8 m).wf=true):∃k:Nat,m=k/\k < 256:=by
 simp[Lit.wf,IntKind.min,IntKind.max,IntKind.signed,IntKind.bits] at h
 exact⟨m.toNat,by omega,by omega⟩
theorem zmK:∀al:List Value,(∀v∈al,∃b:Bool,v=.bool b)->∃l:List Bool,al=zho l
 | [],_=>⟨[],rfl⟩
 | v :: al,h=>by
   obtain⟨b,rfl⟩:=h v QM
   obtain⟨l,rfl⟩:=zmK al λx hx=>h x (QG _ hx)
   exact⟨b :: l,rfl⟩
theorem zs9 {α:Type} (Q:Nat->α->Prop):∀n:Nat,(∀i,i < n->∃a,Q i a)->∃l:List α,l.length=n/\∀(i:Nat) (hi:i < l.length),Q i l[i]
 | 0,_=>by simp
 | n+1,h=>by
   obtain⟨l,hl,hq⟩:=zs9 Q n λi hi=>h i (by omega)
   obtain⟨a,ha⟩:=h n (by omega)
   refine⟨l ++ [a],by grind,λi hi=>?_⟩
   grind
theorem zfS {l:List Value} {i:Nat} (hi:i < l.length):(l.drop i).take 1=[l[i]]:=by grind[Q0]
theorem zuJ {g n:Nat} {al:List Value} (r:RdL Tryz.prog (Rd Tryz.prog h (g+1)) (List.replicate n 5) al):∃data:List Nat,al=za6 .u8 data/\data.length=n/\∀x∈data,x < 256:=by
 obtain⟨hl,hi⟩:=r.rep
 have hc2:Tryz.prog.cellsOf 5=1:=by rfl
 rw[hc2,Qp] at hl
 obtain⟨data,rfl,hd⟩:=zmJ al λv hv=>by
  obtain⟨i,hil,rfl⟩:=Q9.1 hv
  have:=hi i (by omega)
  rw[hc2,Qp,zfS hil] at this
  grind[Rd,Tryz.underlying5,zyF]
 grind[zaD]
theorem zuK {g n:Nat} {al:List Value} (r:RdL Tryz.prog (Rd Tryz.prog h (g+1)) (List.replicate n 4) al):∃l:List Bool,al=zho l/\l.length=n:=by
 obtain⟨hl,hi⟩:=r.rep
 have hc2:Tryz.prog.cellsOf 4=1:=by rfl
 rw[hc2,Qp] at hl
 obtain⟨l,rfl⟩:=zmK al λv hv=>by grind[Q9,zfS,Rd,Tryz.underlying4]
 grind[zem]
theorem zwZ {g:Nat} {v:Value} (r:Rd Tryz.prog h (g+2) 34 [v]):∃p n c data,v=.slice p n c/\zds h p n data/\(0 < n->n<=c/\c < zai):=by
 unfold Rd at r
 obtain⟨p,n,c,al,e,hp,hn,hb,hs,hr⟩:=r
 have hc2:Tryz.prog.cellsOf 5=1:=by rfl
 have hb2:Tryz.prog.bytesOf 5=1:=by rfl
 rw[hb2,Qp] at hb
 obtain⟨data,rfl,hl,hd⟩:=zuJ hr
 exact⟨p,n,c,data,by grind,⟨hp,hl.symm,hb,hs,hd⟩,hn.2⟩
theorem zta {g:Nat} {v:Value} (r:Rd Tryz.prog h (g+2) 55 [v]):∃p n c l,v=.slice p n c/\zmO h p n l:=by
 unfold Rd at r
 obtain⟨p,n,c,al,e,hp,hn,hb,hs,hr⟩:=r
 have hc2:Tryz.prog.cellsOf 4=1:=by rfl
 have hb2:Tryz.prog.bytesOf 4=1:=by rfl
 rw[hb2,Qp] at hb
 obtain⟨l,rfl,hl⟩:=zuK hr
 exact⟨p,n,c,l,by grind,hp,hl.symm,hb,hs⟩
theorem zAi {g:Nat} {cs:List Value} (r:Rd Tryz.prog h (g+3) 57 cs):∃o:OpP,zu0 h cs o:=by
 unfold Rd at r
 rw[Tryz.underlying57] at r
 have hc1:Tryz.prog.cellsOf 3=1:=by rfl
 have hc2:Tryz.prog.cellsOf 34=1:=by rfl
 have hc3:Tryz.prog.cellsOf 9=1:=by rfl
 have hc4:Tryz.prog.cellsOf 55=1:=by rfl
 simp only[QD,Jk,RdL,hc1,hc2,hc3,hc4,QB] at r
 obtain⟨k1,r1,k2,r2,k3,r3,k4,r4,k5,r5,k6,r6,r7⟩:=r
 unfold Rd at r1 r2 r3 r4
 obtain⟨x1,e1, -⟩:=r1
 obtain⟨x2,e2, -,w2⟩:=r2
 obtain⟨x3,e3, -,w3⟩:=r3
 obtain⟨x4,e4, -⟩:=r4
 match cs,e1,e2,e3,e4,r5,r6,r7,k6 with
 | [c0,c1,c2,c3,c4,c5],e1,e2,e3,e4,r5,r6,r7,k6=>
   obtain⟨pd,nd,cd,data,e5,t5, -⟩:=zwZ (g:=g) (v:=c4) r5
   obtain⟨pk,nk,ck,keep,e6,t6⟩:=zta (g:=g) (v:=c5) r6
   simp at e1 e2 e3 e4
   subst e1 e2 e3 e4 e5 e6
   exact⟨⟨x1,x2,x3,x4,data,keep⟩,pd,nd,cd,pk,nk,ck,rfl,t5,t6,w2,w3⟩
 | c0 :: c1 :: c2 :: c3 :: c4 :: c5 :: c6 :: l,e1,e2,e3,e4,r5,r6,r7,k6=>grind
theorem zyG {g:Nat} {v:Value} (r:Rd Tryz.prog h (g+4) 22 [v]):∃p n c os,v=.slice p n c/\Ops h p n os/\(0 < n->n<=c/\c < zai):=by
 unfold Rd at r
 obtain⟨p,n,c,al,e,hp,hn,hb,hs,hr⟩:=r
 have hc2:Tryz.prog.cellsOf 57=6:=by rfl
 have hb2:Tryz.prog.bytesOf 57=96:=by rfl
 obtain⟨hl,hi⟩:=hr.rep
 obtain⟨os,hos,hq⟩:=zs9 (λi (o:OpP)=>zu0 h ((al.drop (i * 6)).take 6) o) n λi hin=>zAi (hi i hin)
 exact⟨p,n,c,os,by grind,⟨hp,hos.symm,hb,al,hs,hq⟩,hn.2⟩
theorem zyH {g:Nat} {v:Value} (r:RdV Tryz.prog h (g+5) 24 v):∃p n c,∃s:zi3,v=.agg #[.int .i64 s.secs,.slice p n c]/\Ops h p n s.ops/\(0 < n->n<=c/\c < zai):=by
 unfold RdV at r
 obtain⟨cs,rfl,r⟩:=r
 unfold Rd at r
 rw[Tryz.underlying24] at r
 have hc1:Tryz.prog.cellsOf 3=1:=by rfl
 have hc2:Tryz.prog.cellsOf 22=1:=by rfl
 simp only[QD,Jk,RdL,hc1,hc2,QB] at r
 obtain⟨k1,r1,k2,r2,r3⟩:=r
 unfold Rd at r1
 obtain⟨x1,e1, -⟩:=r1
 match cs,e1,r2,r3,k2 with
 | [c0,c1],e1,r2,r3,k2=>
   obtain⟨p,n,c,os,e2,T⟩:=zyG (g:=g) (v:=c1) r2
   simp at e1
   subst e1 e2
   exact⟨p,n,c,⟨x1,os⟩,rfl,T⟩
 | c0 :: c1 :: c2 :: l,e1,r2,r3,k2=>grind
theorem zor.frozen {w w' : World} (k:zor w w') (a:Addr) (ha:a.block < w.heap.size):w'.frozen? a=w.frozen? a:=by
 unfold World.frozen?
 rw[k.2.2.2 _ ha]
section
open Go.ChangeShapes Go.WideShapes
theorem ztb {H:Type} {enc:TypeId×Value->H} {f:Func} {s:ChangeSpec} {apart fresh handsOn again:Bool} {W W' : World} {args:Array Value} {v:Value} {ds gs:List (DataW H)} {before pa pv:List MemPlace}
 (hW:DataW.Whole enc P f.params.toList s.vars apart W args.toList ds gs before)
 (hres:∀(b:Nat) (sp:Nat->Bool) (hd:Bool),DataW.TrodAll enc P W' b sp hd f.resultTypes.toList (v.resultList f.resultTypes.size) (s.fn H (ds ++ gs)).results [])
 (hargs:∀sp:Nat->Bool,(∀p∈before,sp p.block=true)->DataW.TrodAll enc P W' 0 sp true f.params.toList args.toList (s.fn H (ds ++ gs)).args pa)
 (hvars:∀sp:Nat->Bool,(∀p∈before,sp p.block=true)->DataW.TrodVars enc P W' sp s.vars (s.fn H (ds ++ gs)).vars pv)
 (hps:before=pa ++ pv) (hk:zor W W')
 (hok:∀(j:Nat) (t:TypeId) (r:Value),f.resultTypes[j]?= some t->(v.resultList f.resultTypes.size)[j]?= some r->Value.okWide P W' .any 0 t r):
 s.post enc P f apart fresh handsOn again W args v W':=by
 have hlt:=hW.lt
 have hold:∀p∈before,(λb=>decide (b < W.heap.size)) p.block=true:=by grind
 refine⟨ds,gs,before,[],pa,pv,hW,hres _ _ _,hargs _ hold,hvars _ hold,World.keptBut_mono (λp hp=>⟨hp,?_⟩) (hk.but (·∈before)),λ_=>?_⟩
 ·grind
 ·obtain⟨_,_,_,_,_,hz,hn⟩:=hW
  refine⟨hok,_,_,([] ++ pa) ++ pv,⟨[] ++ pa,pv,trodAll_append (hargs _ (λ_ _=>rfl)) (hres _ _ _),hvars _ (λ_ _=>rfl),rfl,?_,?_⟩,?_⟩
  ·intro b off hp
   have hp' : MemPlace.cell b off∈before:=by grind
   rw[hk.frozen _ (hlt _ hp')]
   exact hz b off hp'
  all_goals grind
end
end
theorem rdi {h:AH} {g:Nat} {v:Value} (r:RdV Tryz.prog h (g+1) 3 v):∃x:Int,v=.int .i64 x:=by
 unfold RdV at r
 rw[Tryz.underlying3] at r
 unfold Rd at r
 rw[Tryz.underlying3] at r
 obtain⟨x,e, -⟩:=r
 simp at e
 exact⟨x,e⟩
theorem ztc {w:World} {base:Nat} {x y:Value} (hv:Value.okWide Tryz.prog w .any base 24 (.agg #[x,y])) {a:Addr} {n c:Nat} (e:y=.slice (some a) n c):a.spot=none:=by
 subst e
 unfold Value.okWide at hv
 rw[Tryz.underlying24] at hv
 obtain⟨cs,e, -,ts,ht, -,h2⟩:=hv
 cases e
 obtain⟨u,hu,k⟩:=h2 1 _ rfl
 have hts:ts=[3,22]:=by
  have:Tryz.prog.cellTypes Tryz.prog.depth 24=some [3,22]:=by kernel_rfl
  rw[this] at ht
  exact (Option.some.inj ht).symm
 subst hts
 cases hu
 unfold Cell.okWide Cell.ok at k
 rw[Tryz.underlying22] at k
 exact k.2.2.2.1
theorem VR.two {φ:Fi} {x y v:Value} (k:VR φ (.agg #[x,y]) v):∃x' y',v=.agg #[x',y']/\VR φ x x'/\VR φ y y':=by
 generalize hx:(Value.agg #[x,y])=z at k
 cases k with
 | agg h1 h2 h3=>
   rename_i xs xs'
   cases hx
   match xs',h1,h3 with
   | ⟨[a,b]⟩,_,h3=>exact⟨a,b,rfl,h3 0 _ a rfl rfl,h3 1 _ b rfl rfl⟩
   | ⟨[]⟩,h1,_=>simp at h1
   | ⟨[_]⟩,h1,_=>simp at h1
   | ⟨_ :: _ :: _ :: _⟩,h1,_=>simp at h1
 | _=>cases hx
theorem VR.mk2 {φ:Fi} {x y x' y' : Value} (m1:zbT x=false) (m2:zbT y=false) (k1:VR φ x x') (k2:VR φ y y'):VR φ (.agg #[x,y]) (.agg #[x',y']):=
 LR.agg (show LR φ [x,y] [x',y'] from ⟨k1,m1,k2,m2,trivial⟩)
theorem zod {H:Type} {enc:TypeId×Value->H} {w:World} (G:zdL Tryz.prog) (X:zbR Tryz.prog KB) {base:Nat} {args:Array Value} {ds:List (DataW H)} {ps:List MemPlace}
 (ho:([24,3]:List TypeId).all (okT Tryz.prog 8)=true) (hv:∀(j:Nat) t v,([24,3]:List TypeId)[j]?= some t->args[j]?= some v->Value.okWide Tryz.prog w .any base t v) (hA:DataW.TrodAll enc Tryz.prog w 0 (λ_=>true) true [24,3] args.toList ds ps) (hwt:(DataW.weightsEach Tryz.prog [24,3] ds).all (·<=reachBytes)=true):
 Calls Tryz.prog 4 args w λe w'=>e=.returned (.bool true)/\zor w w':=by
 obtain⟨φ,h,us,e,r,k⟩:=zoE ho (λj t v q1 q2=>hv j t v q1 (by rw[<-Qy]; exact q2)) hA hwt (St.empty w)
 obtain⟨a,b,rfl,r1,r2⟩:=zFA k
 obtain⟨p,n,c,s,rfl,T,hC⟩:=zyH (g:=3) r1
 obtain⟨x,rfl⟩:=rdi (g:=7) r2
 by_cases hc:c < zai
 ·refine zot G X (xb rfl) (zea G X T ?_ e.st.rel.lt) e.st.rel e.st.free e.st.ro r
  rcases T.1 with rfl | ⟨b,off,rfl⟩
  ·refine .inl ⟨rfl,?_,hc⟩
   obtain⟨-, -, -,cells,S, -⟩:=T
   rcases S.2 with z | ⟨_,_,_,_,_,z, -⟩
   ·exact z
   ·cases z
  ·refine .inr ⟨b,off,rfl,?_,hc⟩
   rcases QK n with z | z
   ·omega
   ·exact (hC z).1
 ·obtain rfl:n=0:=by
   rcases QK n with z | z
   ·exact z
   ·exact absurd (hC z).2 hc
  have hs:s.ops=[]:=List.eq_nil_of_length_eq_zero T.2.1.symm
  have hva:=hv 0 24
  obtain⟨al⟩:=args
  match al,r with
  | [va,vb],r=>
    obtain⟨r1,r2, -⟩:=r
    obtain⟨x1,y1,rfl,k1,k2⟩:=r1.two
    have go:∀(ad:Addr) (c' : Nat),c' < zai->y1=.slice (some ad) 0 c'->Calls Tryz.prog 4 ⟨[.agg #[x1,y1],vb]⟩ w λe w'=>e=.returned (.bool true)/\zor w w':=λad c' hc' e1=>by
     have sp:=ztc (hva _ rfl rfl) e1
     obtain⟨ab,ao,asp⟩:=ad
     simp only at sp
     subst sp e1
     have s2:=e.st.name ⟨ab,ao,0,0⟩
     have le:=zfr (r:=⟨ab,ao,0,0⟩) (e.st.free h.next (Qc _))
     refine zot G X (xb rfl) (zea (s:=s) (p:=some ⟨h.next,0,none⟩) (n:=0) (c:=c') (cut:=x) G X ⟨.inr ⟨_,_,rfl⟩,by rw[hs]; rfl,Qf _,[],⟨rfl,.inl rfl⟩,λi hi=>by rw[hs] at hi; cases hi⟩ (.inr ⟨_,_,rfl,Qf _,hc'⟩) s2.rel.lt) s2.rel s2.free s2.ro
      (show AR _ [_,_] [_,_] from ⟨VR.mk2 rfl rfl (k1.mono le) (.slice zei hc'),r2.mono le,trivial⟩)
    generalize hq:(Value.slice p 0 c)=q at k2
    cases k2 with
    | sliceNil n' c' hc'=>cases hq; exact absurd hc' hc
    | slice h1 hc'=>cases hq; exact absurd hc' hc
    | sliceO h1 hc' hn ht=>cases hq; exact go _ _ hc' rfl
    | sliceE h1 ha=>cases hq; exact go _ _ (by decide) rfl
    | _=>cases hq
  | [],r=>cases r
  | [_],r=>exact absurd r.2 id
  | _ :: _ :: _ :: _,r=>exact absurd r.2.2 id
theorem zoe {K:Xs} (hk:K 221=none) (a:Int) (b:Option Addr) (d e:Nat) (h:AH) (Q:Value->AH->Prop) (H:
 ∃f,aUn .xor (.int .u32 a)=some (.int .u32 f)/\
 (∃g:Int->Int->Nat->AH->Prop,(∃n,g f 0 n h)/\
 ∀(i:Nat) (j:AH),∀(k:Int),∀(l:Int),g k l i j->
 (l < (d:Int)->zag b λm o=>(0<=l/\l < (d:Int)/\
 (∃p,ld1 j m (o+l.toNat * 1)=some (.int .u8 p)/\
 (∀q:Int,q=IntKind.wrap .u32 p->∃r,zgI .xor .u32 k q=some (.int .u32 r)/\
 (∃s:Int->Int->Nat->AH->Prop,(∃n,s r 0 n j)/\
 ∀(t:Nat) (u:AH),∀(v:Int),∀(w:Int),s v w t u->
 (w < 8->∃x,zgI .and .u32 v 1=some (.int .u32 x)/\
 (∃y,zaT .shr .u32 v 1=some (.int .u32 y)/\
 ((x=1->∃z,zgI .xor .u32 y 2197175160=some (.int .u32 z)/\
 (wI (w+1) λaa=>∃ab,ab < t/\s z aa ab u))/\
 (¬x=1->wI (w+1) λac=>∃ab,ab < t/\s y ac ab u))))/\
 (¬w < 8->wI (l+1) λad=>∃ae,ae < i/\g v ad ae u))))))/\
 (¬l < (d:Int)->∃af,aUn .xor (.int .u32 k)=some (.int .u32 af)/\
 (Q (.int .u32 af) j)))):
 Wt K 221 [.int .u32 a,.slice b d e] h Q:=
  zaj (hs:=[(3,[(0,.int .u32 0),(12,.int .i64 0)]),(7,[(0,.int .u32 0),(20,.int .i64 0)])]) hk (Eq.mpr (by kernel_rfl) H)
theorem zfT {K:Xs} (hk:K 253=none) (a:Option Addr) (h:AH) (Q:Value->AH->Prop) (H:
 ∃b:Option Addr->Nat->Nat->Int->Nat->AH->Prop,(∃n,b none 0 0 0 n h)/\
 ∀(d:Nat) (e:AH),∀(f:Option Addr) (g:Nat) (i:Nat),∀(j:Int),b f g i j d e->
 (j < 4096->zag a λk l=>(0<=j/\j < 4096/\
 (((ld1 e k (l+j.toNat * 1)=some (.bool true)/\
 (wI ((g:Int) - 1) λm=>(0<=m->zag f λo p=>(0<=m/\m < (g:Int)/\
 (lI e o (p+m.toNat * 2) λq=>(zag f λr s=>(0<=m/\m < (g:Int)/\
 (lI e r ((s+m.toNat * 2)+1) λt=>(wI (q+t) λu=>(u=j->zag f λv w=>(0<=m/\m < (g:Int)/\
 (lI e v ((w+m.toNat * 2)+1) λx=>(wI (x+1) λy=>zag f λz aa=>(0<=m/\m < (g:Int)/\
 (sT e z ((aa+m.toNat * 2)+1) (.int .i64 y) λab=>(wI (j+1) λac=>∃ad,ad < d/\b f g i ac ad ab)))))))/\
 (¬u=j->aL e [.int .i64 j,.int .i64 1] 294 λae=>∃af ag ah ai,zak Tryz.prog ae .append #[153,153] [.slice f g i,(.slice (some ⟨e.next,0,none⟩) 1 1)]=some (.slice af ag ah,ai)/\
 (wI (j+1) λaj=>∃ad,ad < d/\b af ag ah aj ad ai)))))))))/\
 (¬0<=m->aL e [.int .i64 j,.int .i64 1] 294 λak=>∃al am an ao,zak Tryz.prog ak .append #[153,153] [.slice f g i,(.slice (some ⟨e.next,0,none⟩) 1 1)]=some (.slice al am an,ao)/\
 (wI (j+1) λap=>∃ad,ad < d/\b al am an ap ad ao))))\/(ld1 e k (l+j.toNat * 1)=some (.bool false)/\
 (wI (j+1) λaq=>∃ad,ad < d/\b f g i aq ad e))))))/\
 (¬j < 4096->Q (.slice f g i) e)):
 Wt K 253 [.pointer a] h Q:=
  zaj (hs:=[(3,[(3,.slice none 0 0),(8,.int .i64 0)])]) hk (Eq.mpr (by kernel_rfl) H)
theorem zqp {K:Xs} (hk:K 231=none) (a:Option Addr) (b d:Nat) (h:AH) (Q:Value->AH->Prop) (H:
 ∃e:List Value,zan Tryz.prog 336=some e/\aL h e 336 λf=>∃g:Int->Nat->AH->Prop,(∃n,g 0 n f)/\
 ∀(i:Nat) (j:AH),∀(k:Int),g k i j->
 (k < (b:Int)->zag a λl m=>(0<=k/\k < (b:Int)/\
 (lI j l (m+k.toNat * 1) λo=>((0<=o->(o < 4096->(0<=o)/\(o < 4096)/\
 (sT j h.next (0+o.toNat * 1) (.bool true) λp=>(wI (k+1) λq=>∃r,r < i/\g q r p)))/\
 (¬o < 4096->wI (k+1) λs=>∃r,r < i/\g s r j))/\
 (¬0<=o->wI (k+1) λt=>∃r,r < i/\g t r j)))))/\
 (¬k < (b:Int)->Wt K 253 [(.pointer (some ⟨h.next,0,none⟩))] j λu v=>
 (∃w x y,u=(.slice w x y)/\
 (Q (.slice w x y) v)))):
 Wt K 231 [.slice a b d] h Q:=
  zaj (hs:=[(3,[(8,.int .i64 0)])]) hk (Eq.mpr (by kernel_rfl) H)
theorem zi0 {K:Xs} (hk:K 217=none) (a:Option Addr) (b:Int) (h:AH) (Q:Value->AH->Prop) (H:
 ∃d:Option Addr->Nat->Nat->Int->Nat->AH->Prop,(∃n,d none 0 0 0 n h)/\
 ∀(e:Nat) (f:AH),∀(g:Option Addr) (i:Nat) (j:Nat),∀(k:Int),d g i j k e f->
 (k < 1024->Wt K 178 [.pointer a,.int .i64 k,.int .u8 b] f λl m=>
 (((l=(.bool true)/\
 (aL m [.int .i64 k] 3 λo=>∃p q r s,zak Tryz.prog o .append #[61,61] [.slice g i j,(.slice (some ⟨m.next,0,none⟩) 1 1)]=some (.slice p q r,s)/\
 (wI (k+1) λt=>∃u,u < e/\d p q r t u s)))\/(l=(.bool false)/\
 (wI (k+1) λv=>∃u,u < e/\d g i j v u m)))))/\
 (¬k < 1024->Wt K 231 [.slice g i j] f λw x=>
 (∃y z aa,w=(.slice y z aa)/\
 (Q (.slice y z aa) x)))):
 Wt K 217 [.pointer a,.int .u8 b] h Q:=
  zaj (hs:=[(3,[(5,.slice none 0 0),(7,.int .i64 0)])]) hk (Eq.mpr (by kernel_rfl) H)
theorem zjo {K:Xs} (hk:K 178=none) (a:Option Addr) (b:Int) (d:Int) (h:AH) (Q:Value->AH->Prop) (H:
 (0<=b->(b < 1024->zag a λe f=>(0<=b/\b < 1024/\
 (∃g,ld1 h e (f+b.toNat * 1)=some (.int .u8 g)/\
 ((g=d->Q (.bool true) h)/\
 (¬g=d->Q (.bool false) h)))))/\
 (¬b < 1024->Q (.bool false) h))/\
 (¬0<=b->Q (.bool false) h)):
 Wt K 178 [.pointer a,.int .i64 b,.int .u8 d] h Q:=
  zaj (hs:=[]) hk (Eq.mpr (by kernel_rfl) H)
theorem zfU {K:Xs} (hk:K 117=none) (a:Option Addr) (h:AH) (Q:Value->AH->Prop) (H:
 ∃b:Int->Nat->AH->Prop,(∃n,b 0 n h)/\
 ∀(d:Nat) (e:AH),∀(f:Int),b f d e->
 (f < 1024->Wt K 178 [.pointer a,.int .i64 f,.int .u8 3] e λg i=>
 (((g=(.bool true)/\
 (Wt K 62 [.pointer a,.int .i64 f,.int .u8 1] i λj k=>
 (wI (f+1) λl=>∃m,m < d/\b l m k)))\/(g=(.bool false)/\
 (wI (f+1) λo=>∃m,m < d/\b o m i)))))/\
 (¬f < 1024->Q (.tuple #[]) e)):
 Wt K 117 [.pointer a] h Q:=
  zaj (hs:=[(1,[(3,.int .i64 0)])]) hk (Eq.mpr (by kernel_rfl) H)
end Go.Am
