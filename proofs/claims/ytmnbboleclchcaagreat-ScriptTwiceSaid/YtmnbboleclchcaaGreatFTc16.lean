/-
  Texts of this proof, part 25. No condition.
-/
import Derived.Test.YtmnbboleclchcaaGreatFTc14
set_option linter.unusedVariables false
set_option linter.unusedSimpArgs false
namespace Go.Am
section
variable {X:Cx} {S S' : TY} {h:AH} {L:Loc} {base:Nat}
section
variable {pu:Bool} {S0:TY} {h0:AH} {σ:Sx} {e:Env} {k:TV->Sx->Prop} {c:OpC}
theorem zer (g:G X pu base S0 h0 S h L σ e):∀{xs:List Operand} {l:List TV},evs σ.a xs=some l->gams X S h L base l (xs.map (ev e))/\∀v∈l,zoO σ v
 | [],l,w=>by grind[evs,gams]
 | x :: xs,l,w=>by
   unfold evs at w
   split at w
   rotate_left
   ·grind
   rename_i v hv
   split at w
   rotate_left
   ·grind
   rename_i m hm
   obtain⟨h1,h2⟩:=g.val hv
   obtain⟨h3,h4⟩:=zer g hm
   grind[gams]
theorem zes {place:Nat->Option (Nat×Nat)} {c:Nat->Option Nat}:∀{ps:List (Nat×Value)} {cs:List Value},zau X S c cs->(∀p∈ps,∃off T,place p.1=some (off,sz X T)/\AtT X c off T/\zdk X S T p.2/\off+sz X T<=cs.length)->
 ∃out,zdd place cs ps=some out/\out.length=cs.length/\zau X S c out
 | [],cs,ht,_=>⟨cs,rfl,rfl,ht⟩
 | p :: ps,cs,ht,hp=>by
   obtain⟨off,T,h1,h2,⟨c1,c2,c3,c4⟩,h4⟩:=hp p (by simp)
   have hl:off+p.2.cells.toList.length<=cs.length:=by omega
   obtain⟨out,o1,o2,o3⟩:=zes (ps:=ps) (ht.upd h2 hl c1 c2) (λq hq=>by
    obtain⟨off',T',k1,k2,k3,k4⟩:=hp q (QB _ hq)
    exact⟨off',T',k1,k2,k3,by grind⟩)
   grind[zdd]
theorem zdC (O:XOk X) {T:Nat}:∀{l:List TV} {q:Prop} {vs:List Value},zcm X T l q->gams X S h L base l vs->q/\∀x∈vs,zdk X S T x
 | [],q,[],w,_=>⟨w,by simp⟩
 | [],q,_ :: _,w,g=>by grind[gams]
 | v :: l,q,[],w,g=>by grind[gams]
 | v :: l,q,x :: vs,w,g=>by
   obtain⟨w1,hc,_⟩:=zbE O w g.1
   obtain⟨hq,hr⟩:=zdC O w1 g.2
   grind
theorem zix:∀{l:List TV} {xs:List Int} {vs:List Value},zme l=some xs->gams X S h L base l vs->vs=xs.map (λx=>Value.int .i64 x)
 | [],xs,[],w,_=>by grind[zme]
 | [],xs,_ :: _,w,g=>by grind[gams]
 | v :: l,xs,[],w,g=>by grind[gams]
 | v :: l,xs,x :: vs,w,g=>by
   simp only[gams] at g
   unfold zme at w
   split at w
   ·grind
   ·rename_i y r heq
    cases heq
    split at w
    rotate_left
    ·grind
    rename_i m hm
    cases w
    rw[g.1.1,zix hm g.2]
    rfl
   grind
theorem zmr:∀{l:List Int} {q:Prop},zzM l q->q/\∀x∈l,0<=x/\x < 1000000
 | [],q,w=>⟨w,by simp⟩
 | x :: r,q,w=>by
   obtain⟨h1,h2⟩:=zmr w.2
   refine⟨h1,λy hy=>?_⟩
   rcases Qy.1 hy with rfl | hy
   ·exact w.1
   grind
theorem ziy:∀{l:List Nat} {n:Nat},zgf n l=true->∀(i:Nat) j,l[i]?= some j->j=n+i
 | [],n,w,i,j,e=>by grind
 | a :: r,n,w,i,j,e=>by
   simp only[zgf,Qd] at w
   cases i with
   | zero=>grind[Qb]
   | succ i=>have:=ziy w.2 i j (by grind); omega
theorem ziz:∀{ps:List (Nat×Value)} {n:Nat} {cs:List Value},zgf n (ps.map (·.1))=true->(∀p∈ps,zbi p.2=true)->n+ps.length<=cs.length->
 zdd (λj=>some (j * 1,1)) cs ps=some (cs.take n ++ ps.map (·.2) ++ cs.drop (n+ps.length))
 | [],n,cs,_,_,hl=>by simp[zdd]
 | (i,v) :: ps,n,cs,ho,hm,hl=>by
   simp only[QE,zgf,Qd] at ho
   have hi:=Qb ho.1
   subst hi
   have hv:=hm (i,v) (QO ..)
   simp only[QF] at hl
   simp only[zdd,Qp,zdl hv]
   rw[if_pos ⟨rfl,by grind⟩]
   have hl2:(cs.take i ++ [v] ++ cs.drop (i+[v].length)).length=cs.length:=ze3 (by grind)
   have ih:=ziz (ps:=ps) (n:=i+1) (cs:=cs.take i ++ [v] ++ cs.drop (i+[v].length)) ho.2 (by grind) (by omega)
   simp only[Qp] at ih
   have e1:(cs.take i ++ [v] ++ cs.drop (i+[v].length)).take (i+1)=cs.take i ++ [v]:=by grind
   have e2:(cs.take i ++ [v] ++ cs.drop (i+[v].length)).drop (i+1+ps.length)=cs.drop (i+(ps.length+1)):=by
    rw[QL,QH (by grind),QR,QC]
    simp
    omega
   simp_all
theorem zg0 (O:XOk X) {T:Nat} (hT:isAgg X T≠some true):∀{l:List TV} {q:Prop} {vs:List Value},zcm X T l q->gams X S h L base l vs->q/\∀x∈vs,okC X S T x/\zbi x=true
 | [],q,[],w,_=>⟨w,by simp⟩
 | [],q,_ :: _,_,g=>by grind[gams]
 | _ :: _,q,[],_,g=>by grind[gams]
 | v :: l,q,x :: vs,w,g=>by
   unfold zcm at w
   unfold zpY at w
   have fin:∀{w' : Prop},(w'->zcm X T l q)->w'/\okC X S T x/\zbi x=true->q/\∀y∈x :: vs,okC X S T y/\zbi y=true:=λhw ⟨h1,h2⟩=>by
    obtain⟨k1,k2⟩:=zg0 O hT (hw h1) g.2
    grind
   split at w
   ·grind
   ·grind
   ·split at w
    ·grind
    split at w
    rotate_left
    ·grind
    split at w
    rotate_left
    ·grind
    exact fin id (zkL w g.1)
theorem zgj (O:XOk X) (g:G X pu base S0 h0 S h L σ e) {t:TypeId} {n:Nat} {parts:Array (Nat×Operand)} {dst:Option Tmp} (w:ze0 X t n parts.toList dst σ k) (hc:c=.quiet\/∃d vs elem,dst=some d/\evs σ.a (parts.toList.map (·.2))=some vs/\und X t=some (.slice elem)/\tagsOfL vs=[]/\(∀k lo hi,ck X elem≠.int k lo hi)/\c=.mk d):∃v h',zar X.P h t n (parts.map λ(i,x)=>(i,ev e x))=some (v,h')/\zgZ X pu base S0 h0 S h L σ e c k v h':=by
 unfold ze0 at w
 split at w
 rotate_left
 ·grind
 rename_i elem d vs0 hu hvs0
 have hpb:∀{K:Sx->Prop},Am.pubs X (tagsOfL vs0) σ K->∃S1 σ1,G X pu base S0 h0 S1 h L σ1 e/\Le2 S S1/\K σ1/\(c=.quiet\/(S1=S/\σ1=σ/\c=.mk d/\∀k lo hi,ck X elem≠.int k lo hi)):=λ{K} w=>by
  rcases hc with rfl | ⟨d',vs',elem',q1,q2,q3,q4,q5,rfl⟩
  ·obtain⟨S1,σ1,g1,l1,w⟩:=g.pubs O w
   grind
  ·rw[hvs0] at q2
   cases q2
   rw[hu] at q3
   rw[q4] at w
   exact⟨S,σ,g,Le2.refl _,w,by grind⟩
 obtain⟨S1,σ1,g1,l1,w,hcc2⟩:=hpb w
 have chg:∀{o:zca} {x:Option (Nat×(Nat->Option Nat))} {pc:PC},Chg c S h L σ S1 (h.alloc o) (upL L d x) (zbf d pc σ1):=λ{o x pc}=>by
  rcases hcc2 with rfl | ⟨rfl,rfl,rfl,_⟩
  ·exact zb8
  ·exact znH
 split at w
 rotate_left
 ·grind
 rename_i vs i hvs hi
 split at w
 rotate_left
 ·grind
 rename_i hcc
 simp only[Qd] at hcc
 obtain⟨⟨⟨⟨ho,hn⟩,hs⟩,hsm⟩,hz⟩:=hcc
 have hn:=Qb hn
 have hs:0 < sz X elem:=by simp_all
 have hsm:=Qr hsm
 have hi' : (inf X elem).isSome=true:=by grind
 have hce:=O.cells elem hi'
 have his:i.size=sz X elem:=by grind[Program.cellsOf,zcy]
 obtain⟨zs,hz1,hz2,hz3⟩:=O.zero elem hi' hz
 obtain⟨gvs,_⟩:=zer g1 hvs
 rw[Jf] at gvs
 have hlen:parts.toList.length=n:=by rw[<-hn,zbH gvs]; simp
 have hmap:(parts.map λ(p:Nat×Operand)=>(p.1,ev e p.2)).toList=parts.toList.map λp=>(p.1,ev e p.2):=by simp
 have hsn:n<=16777216:=by
  have h1:n * 1<=n * i.size:=Nat.mul_le_mul_left _ (by omega)
  omega
 have hcap:n < zai:=by grind[zai]
 have hnv:n<=zbT:=by grind[zbT]
 have go:∀{out:List Value},(∀p∈parts.toList,zdO (ev e p.2)=false)->zdd (λj=>some (j * i.size,i.size)) ((List.replicate n zs).flatten) (parts.toList.map λp=>(p.1,ev e p.2))=some out->zar X.P h t n (parts.map λ(i,x)=>(i,ev e x))=some (.slice (some ⟨h.next,0,none⟩) n n,h.alloc (.cells out elem false)):=by
  intro out hnt hf
  unfold zar
  simp only[zat hu,zcy hi,hz1]
  have hfi:Instr.fill (λj=>some (j * i.size,i.size)) ((List.replicate n zs).flatten).toArray (parts.map λ(p:Nat×Operand)=>(p.1,ev e p.2)).toList=some out.toArray:=by grind[zcc]
  grind
 have rows:∀{q:Prop},zcm X elem vs q->(q->k (.ap d elem n true) (zbf d (.rows elem elem) σ1))->∃v h',zar X.P h t n (parts.map λ(i,x)=>(i,ev e x))=some (v,h')/\zgZ X pu base S0 h0 S h L σ e c k v h':=by
  intro q wq hk
  obtain⟨hq,hcells⟩:=zdC O wq gvs
  have hcell:∀p∈parts.toList,zdk X S1 elem (ev e p.2):=by grind
  obtain⟨out,o1,o2,o3⟩:=zes (S:=S1) (place:=λj=>some (j * i.size,i.size)) (c:=zaJ X elem n) (ps:=parts.toList.map λp=>(p.1,ev e p.2)) (zfD (n:=n) hz2 (hz3 S1)) (λp hp=>by
   obtain⟨p0,hp0,rfl⟩:=List.mem_map.1 hp
   obtain⟨j,hj,hpj⟩:=Jg hp0
   have hidx:=ziy ho j p0.1 (by grind)
   have hlt:p0.1 < n:=by omega
   refine⟨p0.1 * i.size,elem,by grind,by grind[zbh],hcell p0 hp0,?_⟩
   rw[ze5,hz2,his]
   have:(p0.1+1) * sz X elem<=n * sz X elem:=Qt _ hlt
   grind)
  refine⟨_,_,go (λp hp=>?_) o1,S1,_,_,_,g1.newRows O d elem elem n o3,?_,zeJ,Qw _,chg,hk hq⟩
  ·have:=(hcell p hp).2.2.2
   cases hx:ev e p.2 <;> first | rfl | grind
  grind[gam,zan,ze5,zbh]
 split at w
 ·rename_i lo hi2 l hck hnn
  obtain rfl:c=.quiet:=by grind
  obtain⟨hk,hall⟩:=zmr w
  have hvals:=zix hnn gvs
  have hs1:sz X elem=1:=by
   rcases ck_int hck with ⟨hb,_⟩ | ⟨hb,_,_,hu2⟩
   all_goals grind[XOk.sp1,aggT,zat,sz,XOk.one,zhu]
  have hone:∀p∈parts.toList,zbi (ev e p.2)=true:=λp hp=>by
   have:ev e p.2∈parts.toList.map ((ev e)∘λx=>x.2):=by grind
   rw[hvals] at this
   obtain⟨y,_,hy⟩:=List.mem_map.1 this
   rw[<-hy]; rfl
  have hzl:((List.replicate n zs).flatten).length=n:=by grind[ze5]
  have hf:=ziz (ps:=parts.toList.map λp=>(p.1,ev e p.2)) (n:=0) (cs:=(List.replicate n zs).flatten) (by rw[Jf]; exact ho) (by grind) (by rw[hzl,QN]; omega)
  rw[List.take_zero,QR,QH (by rw[hzl,QN]; omega),QS,Jf] at hf
  have hcs:(parts.toList.map ((·.2)∘λp=>(p.1,ev e p.2)))=l.map λx=>Value.int .i64 x:=by
   rw[<-hvals]
   rfl
  rw[hcs] at hf
  have hll:l.length=n:=by
   have:=congrArg List.length hvals
   rw[QN,QN] at this
   omega
  have hg:=go (out:=l.map λx=>Value.int .i64 x) (λp hp=>by have:=hone p hp; cases hx:ev e p.2 <;> first | rfl | (rw[hx] at this; cases this)) (by rw[his,hs1]; exact hf)
  have hT:zau X S1 (λj=>if hj:j < l.length then some (2000000+(l[j]).toNat) else none) (l.map λx=>Value.int .i64 x):=by
   intro j U hU
   simp only at hU
   split at hU
   rotate_left
   ·cases hU
   rename_i hj
   cases hU
   have hx:=hall l[j] (Qj hj)
   refine⟨.int .i64 l[j],by rw[List.getElem?_map,Qe hj]; rfl,?_⟩
   have hck2:ck X (2000000+(l[j]).toNat)=.int .i64 (l[j]) (l[j]):=by
    unfold ck
    have e1:Nat.beq (2000000+(l[j]).toNat) r4=false:=by grind[zjf,r4]
    have e2:exK (2000000+(l[j]).toNat)=true:=by
     unfold exK
     rw[Qd]
     exact⟨by simp,Nat.ble_eq_true_of_le (by omega)⟩
    rw[e1,e2]
    simp only[cond_false,cond_true]
    congr 1 <;> omega
   unfold okC
   rw[hck2]
   exact by simp
  obtain⟨g2,l2⟩:=g1.newPub (ee:=elem) O hT
  refine⟨_,_,hg,_,_,_,_,g2,?_,zaE rfl,Qw _,zb8,hk⟩
  refine⟨by omega,h.next,0,n,false,elem,(λj=>if hj:j < l.length then some (2000000+(l[j]).toNat) else none),by rw[hll],by omega,by omega,by simp only[zeI,if_true],λj x hx=>?_⟩
  have hj:=(Qo.1 hx).1
  have hxx:=(Qo.1 hx).2
  refine⟨by simp only[Qq,hj,dite_true,hxx],hall x (by grind)⟩
 ·rename_i hck
  split at w
  rotate_left
  ·exact w.elim
  rename_i ha hlt
  have hlt:@LT.lt Nat _ elem 1000000:=by simp_all
  have hsh:shB (shK elem)=true:=by
   unfold shB shK
   rw[Qd]
   exact⟨by simp,Nat.ble_eq_true_of_le (by omega)⟩
  have hf2:=O.sh _ hsh
  have hs2:sz X (shK elem)=1:=by unfold sz; rw[hf2]; rfl
  have hs1:sz X elem=1:=by unfold sz; rw[O.one elem ha]; rfl
  have hna:isAgg X (shK elem)≠some true:=λq=>by
   have hno:=O.agg _ q
   have:ck X (shK elem)=zzb (und X elem):=by
    unfold ck
    have e1:Nat.beq (shK elem) r4=false:=by grind[zjf,shK,r4]
    have e2:exK (shK elem)=false:=by
     unfold exK
     have:Nat.blt (shK elem) 3000000=false:=by
      cases hb:Nat.blt (shK elem) 3000000 with
      | false=>rfl
      | true=>have:=Qr hb; unfold shK at this; omega
     rw[this,Bool.and_false]
    have e3:shK elem % 1000000=elem:=by unfold shK; omega
    rw[e1,e2,hsh,e3]
    rfl
   rw[this] at hno
   have hu2:∃e0,und X elem=some (.slice e0):=by
    unfold ck at hck
    have e1:Nat.beq elem r4=false:=by grind
    have e2:exK elem=false:=by
     unfold exK
     have:Nat.ble 2000000 elem=false:=by
      cases hb:Nat.ble 2000000 elem with
      | false=>rfl
      | true=>have:=Qr hb; omega
     rw[this,Bool.false_and]
    have e3:shB elem=false:=by
     unfold shB
     have:Nat.ble 4000000 elem=false:=by
      cases hb:Nat.ble 4000000 elem with
      | false=>rfl
      | true=>have:=Qr hb; omega
     rw[this,Bool.false_and]
    rw[e1,e2,e3] at hck
    split at hck <;> first | (cases hck; done) | skip
    rename_i e0 hu3
    exact⟨e0,hu3⟩
   obtain⟨e0,hu2⟩:=hu2
   rw[hu2] at hno
   cases hno
  obtain⟨hq,hcells⟩:=zg0 O hna w gvs
  have hcell:∀p∈parts.toList,okC X S1 (shK elem) (ev e p.2)/\zbi (ev e p.2)=true:=by grind
  have hzl:((List.replicate n zs).flatten).length=n:=by rw[ze5,hz2,hs1,Qp]
  have hf:=ziz (ps:=parts.toList.map λp=>(p.1,ev e p.2)) (n:=0) (cs:=(List.replicate n zs).flatten) (by rw[Jf]; exact ho) (by grind) (by rw[hzl,QN]; omega)
  rw[List.take_zero,QR,QH (by rw[hzl,QN]; omega),QS,Jf] at hf
  have hg:=go (λp hp=>by have:=(hcell p hp).2; cases hx:ev e p.2 <;> first | rfl | (rw[hx] at this; cases this)) (by rw[his,hs1]; exact hf)
  have hT:zau X S1 (zaJ X (shK elem) n) (parts.toList.map ((·.2)∘λp=>(p.1,ev e p.2))):=by
   intro j U hU
   unfold zaJ at hU
   rw[hs2,Qp,hf2,Nat.mod_one] at hU
   split at hU
   rotate_left
   ·cases hU
   have hj2:j < parts.toList.length:=by omega
   refine⟨ev e (parts.toList[j]).2,by rw[List.getElem?_map,Qe hj2]; rfl,(by grind)⟩
  refine⟨_,_,hg,S1,_,_,_,g1.newRows O d (shK elem) elem n hT,?_,zeJ,Qw _,chg,hq⟩
  simp only[gam]
  refine by grind[zan,zbh]
 ·exact rows w id
theorem zeK (O:XOk X) {fs:List Field}:∀{ps:List (Nat×TV)} {q:Prop} {vs:List Value},zfu X fs ps q->gams X S h L base (ps.map (·.2)) vs->q/\∀(j:Nat) p x,ps[j]?= some p->vs[j]?= some x->∃fd,fs[p.1]?= some fd/\zdk X S fd.type x
 | [],q,vs,w,_=>⟨w,by simp⟩
 | (i,v) :: ps,q,[],w,g=>by grind[gams]
 | (i,v) :: ps,q,x :: vs,w,g=>by
   unfold zfu at w
   split at w
   rotate_left
   ·grind
   obtain⟨w1,hc,_⟩:=zbE O w g.1
   obtain⟨hq,hr⟩:=zeK O w1 g.2
   grind
theorem zcZ (O:XOk X) {fs:List Field}:∀{ps:List (Nat×TV)} {k:List (Nat×TV)->Prop} {vs:List Value},zd2 X fs ps k->gams X S h L base (ps.map (·.2)) vs->tagsOfL (ps.map (·.2))=[]->∃ps',k ps'/\ps'.map (·.1)=ps.map (·.1)/\gams X S h L base (ps'.map (·.2)) vs/\tagsOfL (ps'.map (·.2))=[]
 | [],k,vs,w,g,ht=>⟨[],w,rfl,g,rfl⟩
 | (i,v) :: ps,k,[],w,g,ht=>by grind[gams]
 | (i,v) :: ps,k,x :: vs,w,g,ht=>by
   simp only[QE,gams] at g
   simp only[QE,tagsOfL,List.append_eq_nil_iff] at ht
   unfold zd2 at w
   split at w
   ·grind
   ·rename_i i' T r heq
    cases heq
    split at w
    rotate_left
    ·grind
    split at w
    rotate_left
    ·grind
    obtain⟨⟨us,rfl,h1,h2⟩,g2⟩:=g
    obtain⟨l,hk,k1,k2,k3⟩:=zfy (h:=h) (L:=L) (base:=base) w h1 h2
    obtain⟨ps',q1,q2,q3,q4⟩:=zcZ O hk g2 ht.2
    grind[gams,gam,tagsOfL,tagsOf]
   ·rename_i p r hne heq
    cases heq
    obtain⟨ps',q1,q2,q3,q4⟩:=zcZ O w g.2 ht.2
    grind[gams,tagsOfL]
theorem zfE (O:XOk X) {fs:Array Field} (hinfo:∀f∈fs.toList,(inf X f.type).isSome=true):∀{ps:List (Nat×TV)} {l l' : List TV} {vs zs:List Value},zcP X fs.toList ps l=some l'->gams X S h L base (ps.map (·.2)) vs->gams X S h L base l zs->(∀x∈zs,zbi x=true)->tagsOfL l=[]->tagsOfL (ps.map (·.2))=[]->
 (∀p∈ps,∀fd,fs[p.1]?= some fd->fd.offset+X.P.cellsOf fd.type<=zs.length)->
 ∃out,zdd (zgS X.P fs) zs ((ps.map (·.1)).zip vs)=some out/\gams X S h L base l' out/\(∀x∈out,zbi x=true)/\tagsOfL l'= []/\∀x∈vs,zdO x=false
 | [],l,l',vs,zs,w,gv,gl,hm,ht,_,_=>by
   simp only[zcP,Qa] at w
   subst w
   cases vs with
   | nil=>exact⟨zs,by rfl,gl,hm,ht,by simp⟩
   | cons _ _=>grind[gams]
 | (i,v) :: ps,l,l',[],zs,w,gv,gl,hm,ht,_,_=>by grind[gams]
 | (i,v) :: ps,l,l',x :: vs,zs,w,gv,gl,hm,ht,ht2,hoff=>by
   simp only[QE,gams] at gv
   simp only[QE,tagsOfL,List.append_eq_nil_iff] at ht2
   unfold zcP at w
   split at w
   rotate_left
   ·grind
   rename_i fd hfd
   have hfd' : fs[i]?= some fd:=by grind
   have hi:=hinfo fd (QP hfd)
   have hce:=O.cells fd.type hi
   have hle:=hoff (i,v) (QO ..) fd hfd'
   have step:∀{m:List TV},zcP X fs.toList ps (zgW l fd.offset m)=some l'->gams X S h L base m x.cells.toList->(∀y∈x.cells.toList,zbi y=true)->tagsOfL m=[]->x.cells.toList.length=sz X fd.type->(∀xs,x≠.tuple xs)->
    ∃out,zdd (zgS X.P fs) zs (((i,v) :: ps).map (·.1) |>.zip (x :: vs))=some out/\gams X S h L base l' out/\(∀x∈out,zbi x=true)/\tagsOfL l'= []/\∀y∈x :: vs,zdO y=false:=by
    intro m wm gm mm mt ml nt
    have hlen:=zbH gm
    obtain⟨out,o1,o2,o3,o4,o5⟩:=zfE O hinfo (zs:=zs.take fd.offset ++ x.cells.toList ++ zs.drop (fd.offset+x.cells.toList.length)) wm gv.2 (by grind[zgW,zcB,zfv,zfw]) (by grind) (by grind[zgW,zcA]) ht2.2 (by grind)
    refine⟨out,?_,o2,o3,o4,λy hy=>?_⟩
    ·grind[List.zip_cons_cons,zdd,zgS]
    ·rcases Qy.1 hy with rfl | hy
     ·cases y <;> first | rfl | grind
     grind
   have one:zrY v->(match isAgg X fd.type with | some false=>zcP X fs.toList ps (zgW l fd.offset [v]) | _=>none)=some l'->∃out,zdd (zgS X.P fs) zs (((i,v) :: ps).map (·.1) |>.zip (x :: vs))=some out/\gams X S h L base l' out/\(∀x∈out,zbi x=true)/\tagsOfL l'= []/\∀y∈x :: vs,zdO y=false:=by
    intro hv w
    have hmx:=zmg gv.1 hv
    split at w
    rotate_left
    ·grind
    refine step w (by grind[zdl,gams]) (by grind[zdl]) (by grind[tagsOfL]) (by grind[zdl,sz,XOk.one]) (λxs q=>by rw[q] at hmx; cases hmx)
   split at w
   ·grind[gam,zcC,tagsOf,zbH,Qb]
   ·grind
   ·grind
   ·grind
   ·grind
   ·grind
   ·refine one ?_ w
    cases v <;> first | trivial | grind | grind | grind | grind | grind | grind
theorem zms (O:XOk X) (g:G X pu base S0 h0 S h L σ e) {t:TypeId} {parts:Array (Nat×Operand)} (w:zrV X t parts.toList σ k):∃v,zbA X.P t (parts.map λ(i,x)=>(i,ev e x))=some v/\zgZ X pu base S0 h0 S h L σ e .quiet k v h:=by
 unfold zrV at w
 split at w
 rotate_left
 ·grind
 rename_i vs0 hvs0
 obtain⟨S1,σ1,g1,l1,w⟩:=g.pubs O w
 split at w
 rotate_left
 ·grind
 rename_i vs hvs
 split at w
 rotate_left
 ·grind
 rename_i htags
 obtain⟨gvs,_⟩:=zer g1 hvs
 rw[Jf] at gvs
 have hmap:(parts.map λ(p:Nat×Operand)=>(p.1,ev e p.2)).toList=parts.toList.map λp=>(p.1,ev e p.2):=by simp
 have hvl:vs.length=parts.toList.length:=by rw[zbH gvs]; simp
 have hz2:((parts.toList.map (·.1)).zip vs).map (·.2)=vs:=by grind[List.map_snd_zip]
 have hz1:((parts.toList.map (·.1)).zip vs).map (·.1)=parts.toList.map (·.1):=by grind[List.map_fst_zip]
 have hzip:(parts.toList.map (·.1)).zip (parts.toList.map ((ev e)∘λx=>x.2))=parts.toList.map λp=>(p.1,ev e p.2):=by grind
 have post:∀{tv:TV} {v:Value},gam X S1 h L base tv v->tagsOf tv=[]->k tv σ1->zgZ X pu base S0 h0 S h L σ e .quiet k v h:=λgv ht hk=>⟨S1,L,σ1,_,g1,gv,zaE ht,Qc _,λ_ _=>rfl,hk⟩
 have nt:(∀p∈parts.toList,zdO (ev e p.2)=false)->((parts.map λ(p:Nat×Operand)=>(p.1,ev e p.2)).toList.any λp=>zdO p.2)≠true:=by
  rw[hmap,List.any_map]
  simp only[ne_eq,List.any_eq_true,not_exists,not_and]
  grind
 split at w
 ·rename_i fs hu
  split at w
  rotate_left
  ·grind
  have hinfo:∀f∈fs.toList,(inf X f.type).isSome=true:=by grind
  have hti:=O.info t _ hu
  have fin:∀{zs out:List Value},zao X.P t=some zs->(∀p∈parts.toList,zdO (ev e p.2)=false)->zdd (zgS X.P fs) zs (parts.toList.map λp=>(p.1,ev e p.2))=some out->zbA X.P t (parts.map λ(i,x)=>(i,ev e x))=some (.agg out.toArray):=by
   intro zs out hz hn hf
   unfold zbA
   rw[if_neg (nt hn),hz,zat hu]
   simp only
   rw[if_pos (by grind[zbz]),zcc (out:=out)]
   ·rfl
   ·have hpl:(λi=>(fs[i]?).map λf=>(f.offset,X.P.cellsOf f.type))=zgS X.P fs:=rfl
    grind
  split at w
  ·rename_i hsm
   obtain⟨ps',w,q2,q3,q4⟩:=zcZ (vs:=parts.toList.map ((ev e)∘λx=>x.2)) O w (by rw[hz2]; exact gvs) (by rw[hz2]; exact htags)
   split at w
   rotate_left
   ·exact w.elim
   rename_i z hz
   split at w
   rotate_left
   ·exact w.elim
   rename_i l hl
   obtain⟨zs,hzc,hzm,hzg⟩:=O.zeros t z hsm hz
   have hzl:zs.length=sz X t:=by
    rw[<-zbH (hzg S1 h L base)]
    exact zmo hz
   obtain⟨out,o1,o2,o3,o4,o5⟩:=zfE O hinfo hl q3 (hzg S1 h L base) hzm (zgi hz) q4 (λp hp fd hfd=>by
    have hi:=hinfo fd (by exact by grind)
    rw[O.cells _ hi,hzl]
    exact O.fieldLe t fs p.1 fd hu hfd)
   rw[q2,hz1,hzip] at o1
   refine⟨_,fin hzc (λp hp=>by grind) o1,post (tv:=.agg l) (by simp only[gam]; exact by grind) (by exact o4) w⟩
  ·split at w
   rotate_left
   ·exact w.elim
   rename_i hz
   obtain⟨zs,hzc,hzl,hzt⟩:=O.zero t hti hz
   obtain⟨hk,hf⟩:=zeK (vs:=parts.toList.map ((ev e)∘λx=>x.2)) O w (by rw[hz2]; exact gvs)
   have hcell:∀p∈parts.toList,∃fd,fs[p.1]?= some fd/\zdk X S1 fd.type (ev e p.2):=λp hp=>by
    obtain⟨j,hj,hpj⟩:=Jg hp
    obtain⟨fd,f1,f2⟩:=hf j (p.1,vs[j]) (ev e p.2) (by
     rw[Qe (by rw[List.length_zip,QN]; omega)]
     simp[hpj]) (by rw[List.getElem?_map,Qe hj,hpj]; rfl)
    exact by grind
   obtain⟨out,o1,o2,o3⟩:=zes (S:=S1) (place:=zgS X.P fs) (c:=zcO X t) (ps:=parts.toList.map λp=>(p.1,ev e p.2)) (hzt S1) (λp hp=>by
    obtain⟨p0,hp0,rfl⟩:=List.mem_map.1 hp
    obtain⟨fd,f1,f2⟩:=hcell p0 hp0
    have hi:=hinfo fd (by rw[<-Qx] at f1; exact QP f1)
    refine⟨fd.offset,fd.type,by simp only[zgS,f1,Ql,O.cells _ hi],λi ct hi=>O.field t fs p0.1 fd hu f1 i ct hi,f2,?_⟩
    rw[hzl]
    exact O.fieldLe t fs p0.1 fd hu f1)
   refine⟨_,fin hzc (λp hp=>?_) o1,post (tv:=.aggT t) (by simp only[gam]; exact by grind) rfl hk⟩
   obtain⟨fd,f1,f2⟩:=hcell p hp
   have:=f2.2.2.2
   cases hx:ev e p.2 <;> first | rfl | exact absurd hx (this _)
 ·rename_i n elem hu
  split at w
  rotate_left
  ·exact w.elim
  rename_i hcc
  simp only[Qd] at hcc
  obtain⟨⟨hz,hei⟩,hidx⟩:=hcc
  have hti:=O.info t _ hu
  obtain⟨zs,hzc,hzl,hzt⟩:=O.zero t hti hz
  obtain⟨hk,hcells⟩:=zdC O w gvs
  have hcell:∀p∈parts.toList,zdk X S1 elem (ev e p.2):=by grind
  have hce:=O.cells elem hei
  obtain⟨out,o1,o2,o3⟩:=zes (S:=S1) (place:=λi=>some (i * X.P.cellsOf elem,X.P.cellsOf elem)) (c:=zcO X t) (ps:=parts.toList.map λp=>(p.1,ev e p.2)) (hzt S1) (λp hp=>by
   obtain⟨p0,hp0,rfl⟩:=List.mem_map.1 hp
   have hlt:p0.1 < n:=Qr (Qz.1 hidx p0.1 (by grind))
   refine⟨p0.1 * X.P.cellsOf elem,elem,by simp only[hce],λi ct hi=>by rw[hce]; exact O.elem t n elem hu p0.1 hlt i ct hi,hcell p0 hp0,?_⟩
   rw[hzl,hce]
   exact O.elemLe t n elem hu p0.1 hlt)
  refine⟨.agg out.toArray,?_,post (tv:=.aggT t) (by simp only[gam]; exact by grind) rfl hk⟩
  unfold zbA
  rw[if_neg (nt λp hp=>by
   have:=(hcell p hp).2.2.2
   cases hx:ev e p.2 <;> first | rfl | exact absurd hx (this _)),hzc,zat hu]
  simp only
  rw[if_pos (zbz hei),zcc (out:=out)]
  ·rfl
  ·simpa using o1
 ·exact w.elim
end
end
section
variable {X:Cx} {S S' : TY} {h:AH} {L:Loc} {base:Nat}
mutual
theorem zoS {base' : Nat} (hb:base'<=base):∀(t:TV) (v:Value),gam X S h L base t v->gam X S h L base' t v
 | .cp w fr T,v,g=>by
   simp only[gam] at g ⊢
   obtain⟨b,off,ro,e,c,h1,h2,h3,h4,h5⟩:=g
   exact⟨b,off,ro,e,c,h1,h2,h3,h4,λq=>Qm hb (h5 q)⟩
 | .sl w fr kc T n,v,g=>by
   simp only[gam] at g ⊢
   exact g.weak id (λq=>⟨q,hb⟩) id
 | .agg q,v,g=>by
   simp only[gam] at g ⊢
   obtain⟨vs,h1,h2,h3⟩:=g
   exact⟨vs,h1,gams_base hb q vs h2,h3⟩
 | .tup q,v,g=>by
   simp only[gam] at g ⊢
   obtain⟨vs,h1,h2,h3⟩:=g
   exact⟨vs,h1,h2,gams_base hb q vs h3⟩
 | .fn f a c,v,g=>by
   simp only[gam] at g ⊢
   obtain⟨va,vc,h1,h2,h3⟩:=g
   exact⟨va,vc,h1,gams_base hb a va h2,gams_base hb c vc h3⟩
 | .int _ _,v,g=>g
 | .bool _,v,g=>g
 | .str _,v,g=>g
 | .nilp,v,g=>g
 | .nils,v,g=>g
 | .loc _ _ _,v,g=>by simp only[gam] at g ⊢; exact g
 | .pp _ _,v,g=>by simp only[gam] at g ⊢; exact g
 | .hp _,v,g=>g
 | .np _ _,v,g=>by simp only[gam] at g ⊢; exact g
 | .ap _ _ _ _,v,g=>by simp only[gam] at g ⊢; exact g
 | .sp _ _ _,v,g=>by simp only[gam] at g ⊢; exact g
 | .xs _,v,g=>by simp only[gam] at g ⊢; exact g
 | .xp _,v,g=>by simp only[gam] at g ⊢; exact g
 | .aggT _,v,g=>by simp only[gam] at g ⊢; exact g
 | .skip,v,g=>g
 | .any,v,g=>g
theorem gams_base {base' : Nat} (hb:base'<=base):∀(ts:List TV) (vs:List Value),gams X S h L base ts vs->gams X S h L base' ts vs
 | [],[],_=>by simp only[gams]
 | [],_ :: _,g=>by simp[gams] at g
 | _ :: _,[],g=>by simp[gams] at g
 | t :: ts,v :: vs,g=>by simp only[gams] at g ⊢; exact⟨zoS hb t v g.1,gams_base hb ts vs g.2⟩
end
theorem zum {base' : Nat} {L' : Loc} {t:TV} {v:Value} (g:gam X S h L base t v):gam X S h L' base' (zxI t) v:=by
 cases t <;> simp only[zxI,gam] at g ⊢ <;> try omega
 all_goals grind[SlV.weak]
theorem ziA {base' : Nat} {L' : Loc}:∀{ts:List TV} {vs:List Value},gams X S h L base ts vs->gams X S h L' base' (ts.map zxI) vs
 | [],[],_=>by grind[gams]
 | [],_ :: _,g=>by grind[gams]
 | _ :: _,[],g=>by grind[gams]
 | t :: ts,v :: vs,g=>by exact⟨zum g.1,ziA g.2⟩
theorem zr8 {a b:Bool} (h:leK a b=true) (q:a=true):b=true:=by grind[leK]
mutual
theorem zr9 (O:XOk X) {base' : Nat}:∀(p:AP) (v:TV) (k:AT p->Prop) (x:Value),zpZ X p v k->gam X S h L base v x->∃ρ,k ρ/\gam X S h (λ_=>none) base' (zce p ρ) x
 | .int kd,v,k,x,w,g=>by
   unfold zpZ at w
   cases v <;> simp only at w <;> try exact w.elim
   split at w
   rotate_left
   ·exact w.elim
   rename_i hk
   have hk:=of_decide_eq_true hk
   subst hk
   exact⟨_,w,by simp only[zce,gam] at g ⊢; exact g⟩
 | .bool,v,k,x,w,g=>by
   unfold zpZ at w
   cases v <;> simp only at w <;> try exact w.elim
   exact⟨_,w,by simp only[zce,gam] at g ⊢; exact g⟩
 | .str,v,k,x,w,g=>by
   unfold zpZ at w
   cases v <;> simp only at w <;> try exact w.elim
   exact⟨_,w,by simp only[zce,gam] at g ⊢; exact g⟩
 | .np T,v,k,x,w,g=>by
   unfold zpZ at w
   cases v <;> simp only at w <;> try exact w.elim
   case np T' z=>
    split at w
    rotate_left
    ·exact w.elim
    rename_i hT
    have hT:=Qb hT
    subst hT
    exact⟨_,w,by simp only[zce,gam] at g ⊢; exact g⟩
   case hp T'=>
    split at w
    rotate_left
    ·exact w.elim
    rename_i hT
    have hT:=Qb hT
    subst hT
    exact⟨_,w,by simp only[zce,gam] at g ⊢; exact g⟩
   case nilp=>exact⟨_,w,by simp only[zce,gam] at g ⊢; exact g⟩
 | .sl w0 kc T,v,k,x,w,g=>by
   unfold zpZ at w
   cases v <;> simp only at w <;> try exact w.elim
   case sl w' fr kc' T' n=>
    split at w
    rotate_left
    ·exact w.elim
    rename_i hT
    simp only[Qd] at hT
    obtain⟨⟨h1,h2⟩,hT⟩:=hT
    have hT:=Qb hT
    subst hT
    exact⟨_,w,by simp only[zce,gam] at g ⊢; exact g.weak (λq=>zr8 h1 q) (λq=>by cases q) (λq=>zr8 h2 q)⟩
   case nils=>
    refine⟨_,w,?_⟩
    simp only[zce,gam] at g ⊢
    exact⟨Qg _,none,0,g,.inl ⟨rfl,rfl,rfl⟩⟩
 | .fn,v,k,x,w,g=>by
   unfold zpZ at w
   cases v <;> simp only at w <;> try exact w.elim
   refine⟨_,w,?_⟩
   simp only[zce,gam] at g ⊢
   obtain⟨va,vc,h1,h2,h3⟩:=g
   exact⟨va,vc,h1,ziA h2,ziA h3⟩
 | .xs,v,k,x,w,g=>by
   unfold zpZ at w
   cases v <;> simp only at w <;> try exact w.elim
   exact⟨_,w,by simp only[zce,gam] at g ⊢; exact g⟩
 | .aggT T,v,k,x,w,g=>by
   unfold zpZ at w
   cases v <;> simp only at w <;> try exact w.elim
   case aggT T'=>
    split at w
    rotate_left
    ·exact w.elim
    rename_i hT
    have hT:=Qb hT
    subst hT
    exact⟨_,w,by simp only[zce,gam] at g ⊢; exact g⟩
   case agg l=>
    split at w
    rotate_left
    ·exact w.elim
    simp only[gam] at g
    obtain⟨vs,rfl,h1,h2⟩:=g
    obtain⟨hk,h3,h4,_⟩:=zd4 w h1
    exact⟨_,hk,by simp only[zce,gam]; exact⟨vs,rfl,h3,h4⟩⟩
 | .st u,v,k,x,w,g=>by
   unfold zpZ at w
   split at w
   ·split at w
    rotate_left
    ·exact w.elim
    rename_i hT
    have hT:=Qb hT
    subst hT
    exact⟨_,w,by simp only[zce,gam] at g ⊢; exact g⟩
   ·split at w
    rotate_left
    ·exact w.elim
    rename_i hT
    simp only[Qd,QJ] at hT
    have h1:=Qb hT.1
    subst h1
    refine⟨_,w,?_⟩
    simp only[zce,gam,zbr,hT.2] at g ⊢
    obtain⟨b,c,rfl,k1,k2⟩:=g
    exact⟨b,0,_,_,c,rfl,k1,k2,λ_=>rfl,λq=>by cases q⟩
   ·split at w
    rotate_left
    ·exact w.elim
    rename_i hT
    simp only[Qd,QJ] at hT
    have h1:=Qb hT.1
    subst h1
    refine⟨_,w,?_⟩
    simp only[zce,gam,zbr,hT.2] at g ⊢
    obtain⟨b,c,rfl,k1,k2⟩:=g
    exact⟨b,0,_,_,c,rfl,k1,k2,λ_=>rfl,λq=>by cases q⟩
   ·split at w
    rotate_left
    ·exact w.elim
    rename_i a b T a' b' T' hT
    simp only[Qd,QJ] at hT
    obtain⟨⟨⟨q1,q2⟩,q3⟩,q4⟩:=hT
    have h1:=Qb q4
    subst h1
    subst q3
    refine⟨_,w,?_⟩
    simp only[zce,gam] at g ⊢
    obtain⟨b,off,ro,e,c,k1,k2,k3,k4,k5⟩:=g
    exact⟨b,off,ro,e,c,k1,k2,k3,λq=>k4 (zr8 q1 q),λq=>by cases q⟩
   ·exact w.elim
 | .agg l,v,k,x,w,g=>by
   unfold zpZ at w
   cases v <;> simp only at w <;> try exact w.elim
   case aggT T=>
    split at w
    rotate_left
    ·exact w.elim
    simp only[gam] at g
    obtain⟨us,rfl,h1,h2⟩:=g
    obtain⟨vs,hk,k1,_,k3⟩:=zfy (h:=h) (L:=L) (base:=base) w h1 h2
    obtain⟨ρ,hk,k1⟩:=matAs_elim O l vs k us hk k1
    exact⟨ρ,hk,by simp only[zce,gam]; exact⟨us,rfl,k1,k3⟩⟩
   case agg vs=>
    simp only[gam] at g
    obtain⟨us,rfl,h1,h2⟩:=g
    obtain⟨ρ,hk,k1⟩:=matAs_elim O l vs k us w h1
    exact⟨ρ,hk,by simp only[zce,gam]; exact⟨us,rfl,k1,h2⟩⟩
 | .cl f la lc,v,k,x,w,g=>by
   unfold zpZ at w
   cases v <;> simp only at w <;> try exact w.elim
   split at w
   rotate_left
   ·exact w.elim
   rename_i hf
   have hf:=Qb hf
   subst hf
   simp only[gam] at g
   obtain⟨va,vc,rfl,h1,h2⟩:=g
   obtain⟨r,w1,k1⟩:=matAs_elim O la _ _ va w h1
   obtain⟨s,w2,k2⟩:=matAs_elim O lc _ _ vc w1 h2
   exact⟨(r,s),w2,by simp only[zce,gam]; exact⟨va,vc,rfl,k1,k2⟩⟩
theorem matAs_elim (O:XOk X) {base' : Nat}:∀(ps:List AP) (vs:List TV) (k:ATs ps->Prop) (xs:List Value),matAs X ps vs k->gams X S h L base vs xs->∃ρ,k ρ/\gams X S h (λ_=>none) base' (instAs ps ρ) xs
 | [],vs,k,xs,w,g=>by
   unfold matAs at w
   cases vs with
   | nil=>
     cases xs with
     | nil=>exact⟨(),w,by simp only[instAs,gams]⟩
     | cons _ _=>simp[gams] at g
   | cons _ _=>exact w.elim
 | p :: ps,vs,k,xs,w,g=>by
   unfold matAs at w
   cases vs with
   | nil=>exact w.elim
   | cons v vs=>
     cases xs with
     | nil=>simp[gams] at g
     | cons x xs=>
       simp only[gams] at g
       obtain⟨r,w1,g1⟩:=zr9 O (base':=base') p v _ x w g.1
       obtain⟨rs,w2,g2⟩:=matAs_elim O (base':=base') ps vs _ xs w1 g.2
       exact⟨(r,rs),w2,by simp only[instAs,gams]; exact⟨g1,g2⟩⟩
end
section
variable {pu:Bool} {S0:TY} {h0:AH} {σ:Sx} {e:Env} {k:TV->Sx->Prop} {c:OpC}
theorem G.call (g:G X pu base S0 h0 S h L σ e) {h' : AH} {S' : TY} {g' : Int} {spu:Bool} (hx:Xt h.next S S') (hw:WT X S' g' h') (hn:h.next<=h'.next) (hf:∀b,b < h.next->(spu=true\/(S.ty b=none/\¬S.dv b))->h'.get b=h.get b) (hp:pu=true->spu=true):
 G X pu base S0 h0 S' h' L { σ with g:=g' } e:=by
 have prv:∀b,Prv S h base b->Prv S' h' base b/\h'.get b=h.get b:=λb ⟨p1,p2,p3,p4⟩=>⟨⟨p1,by omega,by grind[Xt.old],by grind[Xt.dvo]⟩,by grind⟩
 refine⟨hw,⟨λb q hq=>hx.ty _ _ (g.ext.ty b q hq),λb hb=>by rw[hx.old b (Qi hb g.nx)]; exact g.ext.old b hb,λb hb=>hx.dv b (g.ext.dv b hb),λb hb q=>g.ext.dvo b hb (by grind[Xt.dvo,Qi,nx]),hx.dev.trans g.ext.dev⟩,Qm g.nx hn,λb hb q=>?_,λt v hv=>?_,λtag pc hpc=>?_,g.inj⟩
 ·rw[hf b (Qi hb g.nx) (q.imp hp λq=>⟨by rw[g.ext.old b hb]; grind,λr=>q.2 (g.ext.dvo b hb r)⟩)]
  grind[fr]
 ·obtain⟨x,k1,k2,k3⟩:=g.sl t v hv
  refine⟨x,k1,zbv hx.le v x (λ_ _=>rfl) (λtag b d ht hL=>?_) k2,k3⟩
  obtain⟨pc,hpc⟩:=k3 tag (by grind[zbb])
  exact zck.of (prv b ((g.pv tag pc hpc).prv hL)).2
 ·have o:=g.pv tag pc hpc
  cases pc with
  | tv t l=>
    obtain⟨b,cs,k1,k2,k3,k4,k5,k6⟩:=o
    obtain⟨q1,q2⟩:=prv b k2
    exact⟨b,cs,k1,q1,by grind,zcf hx.le k6 k4,k5,k6⟩
  | ty t=>
    obtain⟨b,cs,k1,k2,k3,k4⟩:=o
    obtain⟨q1,q2⟩:=prv b k2
    exact⟨b,cs,k1,q1,by grind,k4.mono hx.le⟩
  | rows T ee=>
    rcases o with o | ⟨b,c',cs,k1,k2,k3,k4⟩
    ·exact .inl o
    ·obtain⟨q1,q2⟩:=prv b k2
     exact .inr ⟨b,c',cs,k1,q1,by grind,k4.mono hx.le⟩
theorem znM (O:XOk X) (V:∀f s,X.sp f=some s->Val X f s) (g:G X pu base S0 h0 S h L σ e) {f:FuncId} {args:List TV} {vs:List Value} (w:zwu X pu f args σ k) (ga:gams X S h L base args vs) (hc:c=.wild\/(c=.quiet/\∃s,X.sp f=some s/\s.pu=true)):
 Wf X.P X.K f vs h (zgZ X pu base S0 h0 S h L σ e c k):=by
 unfold zwu at w
 split at w
 rotate_left
 ·grind
 rename_i s hs
 split at w
 rotate_left
 ·grind
 obtain⟨ρ,hk,hg⟩:=matAs_elim O (base':=h.next) s.ps args _ vs w ga
 refine (V f s hs ρ σ.g _ hk S h vs g.wt hg).mono λv h' ⟨S',r,g',h1,h2,h3,h4,h5,h6,h7⟩=>?_
 split at h7
 rotate_left
 ·grind
 have hp:pu=true->s.pu=true:=λq=>by grind
 refine⟨S',L,_,r,g.call h1 h2 h3 h4 hp,zbc (Le2.refl _) h6 (zoS g.nx _ _ h5),zaE h6,h3,?_,h7⟩
 rcases hc with rfl | ⟨rfl,s',hs',hq⟩
 ·trivial
 ·rw[hs] at hs'
  cases hs'
  exact λb hb=>h4 b hb (.inl hq)
theorem WoP {o:Oper} {Q:Value->AH->Prop} (hc:zfp o.op=false) {v:Value} {h' : AH} (ha:aOp X.P o e h=some (v,h')) (q:Q v h'):Wo X.P X.K o e h Q:=(zkn hc ha).2 q
theorem zcD (g:G X pu base S0 h0 S h L σ e) {y:Option Value} {q:TV->Prop} (w:zfz X S h L base y q) (hq:∀v,q v->k v σ) (hc:c=.still\/c=.quiet):∃v,y=some v/\zgZ X pu base S0 h0 S h L σ e c k v h:=by
 obtain⟨tv,v,h1,h2,h3,h4⟩:=w
 grind[G.still,zaE]
theorem zjS (g:G X pu base S0 h0 S h L σ e) {y:Option Value} {q:TV->Prop} (w:zr4 X S h L base σ y q) (hq:∀v,q v->k v σ) (hc:c=.still\/c=.quiet):∃v,y=some v/\zgZ X pu base S0 h0 S h L σ e c k v h:=by
 obtain⟨tv,v,h1,h2,h3,h4⟩:=w
 grind[G.still]
end
end
end Go.Am
