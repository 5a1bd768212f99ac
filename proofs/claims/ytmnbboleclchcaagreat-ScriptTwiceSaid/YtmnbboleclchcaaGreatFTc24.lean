/-
  Texts of this proof, part 28. No condition.
-/
import Derived.Test.YtmnbboleclchcaaGreatFTc21
import Derived.Test.YtmnbboleclchcaaGreatRows
set_option linter.unusedVariables false
set_option linter.unusedSimpArgs false
namespace Go.Am
section
def flP (P:Program):Nat->Nat->List Nat
 | 0,_=>[]
 | n+1,t=>cond (Nat.beq t r4 || shB t) [t] (match P.underlying t with | some (.struct fs)=>fs.toList.flatMap (λf=>flP P n f.type) | some (.array m e)=>(List.replicate m (flP P n e)).flatten | some _=>[t] | none=>[])
def szP (P:Program):Nat->Nat->Nat
 | 0,_=>0
 | n+1,t=>cond (Nat.beq t r4 || shB t) 1 (match P.underlying t with | some (.struct fs)=>(fs.toList.map (λf=>szP P n f.type)).sum | some (.array m e)=>m * szP P n e | some _=>1 | none=>0)
variable {P:Program}
theorem zgo:∀n t,(flP P n t).length=szP P n t
 | 0,t=>rfl
 | n+1,t=>by
   unfold flP szP
   cases Nat.beq t r4 || shB t with
   | true=>rfl
   | false=>
     simp only[cond_false]
     split
     ·rw[List.length_flatMap]; congr 1; apply QY; intro f _; exact zgo n f.type
     ·rw[List.length_flatten,List.map_replicate,List.sum_replicate_nat,zgo n]
     all_goals rfl
def dep (P:Program):Nat->Nat->Bool
 | 0,_=>false
 | n+1,t=>match P.underlying t with | some (.struct fs)=>fs.toList.all (λf=>dep P n f.type) | some (.array _ e)=>dep P n e | _=>true
theorem zgp:∀n t,dep P n t=true->∀m,n<=m->flP P m t=flP P n t
 | 0,t,h,_,_=>by cases h
 | n+1,t,h,m,hm=>by
   obtain⟨m,rfl⟩:∃m',m=m'+ 1:=⟨m - 1,by omega⟩
   unfold flP
   unfold dep at h
   cases Nat.beq t r4 || shB t with
   | true=>rfl
   | false=>
     cases hu:P.underlying t with
     | none=>rfl
     | some d=>
       rw[hu] at h
       cases d with
       | struct fs=>
         have hh:fs.toList.map (λf=>flP P m f.type)=fs.toList.map (λf=>flP P n f.type):=QY λf hf=>zgp n f.type (by grind) m (by omega)
         grind
       | array k e=>simp only at h ⊢; rw[zgp n e h m (by omega)]
       | _=>rfl
def offs (P:Program):Nat->List Field->Bool
 | _,[]=>true
 | o,f :: fs=>Nat.beq f.offset o && offs P (o+szP P 12 f.type) fs
theorem zoV:∀{o:Nat} {l:List Field},offs P o l=true->∀{f:Nat} {fd:Field},l[f]?= some fd->o<=fd.offset/\fd.offset+szP P 12 fd.type<=o+(l.flatMap λf=>flP P 12 f.type).length/\
 ∀i,i < szP P 12 fd.type->(l.flatMap λf=>flP P 12 f.type)[fd.offset - o+i]?= (flP P 12 fd.type)[i]?
 | o,[],_,f,fd,h=>by grind
 | o,a :: l,h,0,fd,hf=>by grind[offs,Qb,zgo]
 | o,a :: l,h,f+1,fd,hf=>by
   simp only[offs,Qd] at h
   obtain⟨h1,h2,h3⟩:=zoV h.2 hf
   grind[zgo]
theorem zoW {α:Type} {l:List α} {m:Nat}:∀{n j i:Nat},l.length=m->j < n->i < m->(List.replicate n l).flatten[j * m+i]?= l[i]?
 | 0,j,i,_,h,_=>by omega
 | n+1,0,i,hl,_,hi=>by grind
 | n+1,j+1,i,hl,h,hi=>by
   rw[List.replicate_succ,List.flatten_cons,Qu (by grind),hl,show (j+1) * m+i - m=j * m+i by grind]
   exact zoW hl (by omega) hi
section
variable (X:Cx)
def zsk (T:Nat) (v:Value):Bool:=
 match ck X T with
 | .int k _ _=>(match v with | .int k' n=>decide (k'= k) && decide (n=0) | _=>false)
 | .bool=>(match v with | .bool b=>!b | _=>false)
 | .str=>(match v with | .string s=>Nat.beq s.size 0 | _=>false)
 | .ptr _=>(match v with | .pointer none=>true | _=>false)
 | .sl _=>(match v with | .slice none n c=>Nat.beq n 0 && Nat.beq c 0 | _=>false)
 | .ss _=>false
 | .no=>false
def ziE:List Nat->List Value->Bool
 | [],[]=>true
 | T :: Ts,v :: vs=>zsk X T v && ziE Ts vs
 | _,_=>false
def zsl:Nat->TypeId->Bool
 | 0,_=>false
 | d+1,t=>match und X t with
   | some (.int _)=>true | some .bool=>true | some .string=>true
   | some (.array _ e)=>zsl d e
   | some (.struct fs)=>fs.all (·.name != "_") && fs.toList.all λf=>zsl d f.type
   | _=>false
def zAL (t:TypeId):Bool:=
 !(inT X t) || (dep X.P 11 t && Nat.beq (X.P.cellsOf t) (szP X.P 12 t) &&
   (match X.P.underlying t with | some (.struct fs)=>offs X.P 0 fs.toList | some (.array _ e)=>true | _=>true) &&
   (match zg7 X t || (zkJ X t && (zeros X (X.fl t)).isSome) with
     | true=>(match zao X.P t with | some zs=>ziE X (X.fl t) zs && (X.fl t).all (λT=>!spN T) | none=>false)
     | false=>true))
def zsm:Bool:=(List.range X.P.types.size).all (zAL X) && Nat.ble X.P.types.size 1000000
end
variable {X:Cx}
theorem zci {t:TypeId} {d:TypeDesc} (h:und X t=some d):inT X t=true:=by grind[und]
theorem zxR {t:TypeId} (h:inT X t=true):t < X.P.types.size:=by
 unfold inT at h
 simp_all
theorem zmy {t:TypeId} (h:(inf X t).isSome=true):inT X t=true:=by grind[inf]
structure OkT (X:Cx) (t:TypeId):Prop where
 dep:dep X.P 11 t=true
 sz:X.P.cellsOf t=szP X.P 12 t
 offs:∀fs,X.P.underlying t=some (.struct fs)->offs X.P 0 fs.toList=true
 zero:(zg7 X t=true\/(zkJ X t=true/\(zeros X (X.fl t)).isSome=true))->∃zs,zao X.P t=some zs/\ziE X (X.fl t) zs=true/\∀T∈X.fl t,spN T=false
theorem zqa {t:TypeId} (h:zsm X=true) (hi:inT X t=true):OkT X t/\t < r4:=by
 unfold zsm at h
 simp only[Qd] at h
 have hlt:=zxR hi
 have h1:=Qz.1 h.1 t (List.mem_range.2 hlt)
 have h2:=Qr h.2
 unfold zAL at h1
 rw[hi] at h1
 simp only[Bool.not_true,Bool.false_or,Qd] at h1
 refine⟨⟨h1.1.1.1,by simp_all,λfs hu=>?_,λhz=>?_⟩,Qi hlt h2⟩
 ·grind
 ·have h3:=h1.2
  have:(zg7 X t || (zkJ X t && (zeros X (X.fl t)).isSome))=true:=by grind
  rw[this] at h3
  simp only at h3
  split at h3
  all_goals simp_all
theorem zvg {t:TypeId} (h:t < r4):Nat.beq t r4=false:=by grind[Qb]
theorem zvh {t:TypeId} (h:t < r4):shB t=false:=by
 unfold shB
 have:Nat.ble 4000000 t=false:=by
  cases hb:Nat.ble 4000000 t with
  | false=>rfl
  | true=>exact absurd (Qi h (Qm (by decide) (Qr hb))) (Q9 _)
 grind
theorem zvi {t:TypeId} (h:t < r4):spN t=false:=by
 unfold spN exK
 rw[zvg h]
 have:Nat.ble 2000000 t=false:=by
  cases hb:Nat.ble 2000000 t with
  | false=>rfl
  | true=>exact absurd (Qi h (Qm (by decide) (Qr hb))) (Q9 _)
 grind
theorem zoX {t:TypeId} (h:t < r4):ck X t=(match und X t with | some (.int k)=>.int k (kLo k) (kHi k) | some .bool=>.bool | some .string=>.str | some (.pointer t)=>.ptr t | some (.slice e)=>.sl e | _=>.no):=by
 have h1:=zvi h
 grind[spN,ck,zvh]
theorem zuq (hfl:X.fl=flP X.P 12) {t:TypeId} (o:OkT X t) (hr:t < r4):X.fl t=(match X.P.underlying t with | some (.struct fs)=>fs.toList.flatMap (λf=>X.fl f.type) | some (.array m e)=>(List.replicate m (X.fl e)).flatten | some _=>[t] | none=>[]):=by
 have hd:=o.dep
 rw[hfl]
 conv=>lhs; unfold flP
 rw[zvg hr,zvh hr]
 simp only[Bool.or_false,cond_false]
 unfold Am.dep at hd
 cases hu:X.P.underlying t with
 | none=>rfl
 | some d=>
   rw[hu] at hd
   cases d with
   | struct fs=>
     have hh:fs.toList.map (λf=>flP X.P 11 f.type)=fs.toList.map (λf=>flP X.P 12 f.type):=QY λf hf=>by
      have:=Qz.1 hd f hf
      rw[zgp 10 f.type this 11 (by omega),zgp 10 f.type this 12 (by omega)]
     grind
   | array k e=>simp only at hd ⊢; rw[zgp 10 e hd 11 (by omega),zgp 10 e hd 12 (by omega)]
   | _=>rfl
end
section
variable {X:Cx}
theorem zxS {t:TypeId} (h:inT X t=true):und X t=X.P.underlying t:=by grind[und]
theorem zxT {t:TypeId} (h:inT X t=true):inf X t=X.P.info? t:=by grind[inf]
theorem zea {t:TypeId} {z:Bool} (h:isAgg X t=some z):inT X t=true:=by grind[isAgg]
theorem zur {t:TypeId} {d:TypeDesc} (h:X.P.underlying t=some d):(X.P.info? t).isSome=true:=by grind[Program.underlying]
theorem szF (hfl:X.fl=flP X.P 12) (t:TypeId):sz X t=szP X.P 12 t:=by unfold sz; rw[hfl,zgo]
theorem zus {T:Nat} {v:Value} (hT:spN T=false) (h:zsk X T v=true) (hp:∀t,ck X T≠.ptr t) (S:TY):okC X S T v:=by
 unfold zsk at h
 unfold okC
 cases hc:ck X T with
 | int k lo hi=>
   rw[hc] at h
   simp only at h ⊢
   split at h
   ·rename_i k' n
    simp only[Qd,decide_eq_true_eq] at h
    obtain⟨rfl,rfl⟩:=h
    rcases ck_int hc with ⟨q,_⟩ | ⟨_,rfl,rfl,_⟩
    ·grind
    ·exact⟨0,rfl,by cases k' <;> decide,by cases k' <;> decide⟩
   grind
 | bool=>grind
 | str=>grind[Qb]
 | ptr t=>grind
 | sl e=>
   rw[hc] at h
   simp only at h ⊢
   split at h
   ·simp only[Qd] at h
    have h1:=Qb h.1
    have h2:=Qb h.2
    subst h1 h2
    exact⟨0,Qg _,Qg _,none,0,rfl,by simp⟩
   grind
 | ss e=>grind
 | no=>grind
theorem zgq:∀{Ts:List Nat} {vs:List Value},ziE X Ts vs=true->Ts.length=vs.length/\∀(i T:Nat),Ts[i]?= some T->∃v,vs[i]?= some v/\zsk X T v=true
 | [],[],_=>by simp
 | [],_ :: _,h=>by cases h
 | _ :: _,[],h=>by cases h
 | T :: Ts,v :: vs,h=>by
   simp only[ziE,Qd] at h
   obtain⟨h1,h2⟩:=zgq h.2
   grind
theorem ziF {S:TY} {hp:AH} {L:Loc} {base:Nat}:∀{Ts:List Nat} {vs:List Value} {l:List TV},ziE X Ts vs=true->zeros X Ts=some l->(∀x∈vs,zbi x=true)/\gams X S hp L base l vs
 | [],[],l,_,hz=>by cases hz; grind[gams]
 | [],_ :: _,_,h,_=>by cases h
 | _ :: _,[],_,h,_=>by cases h
 | T :: Ts,v :: vs,l,h,hz=>by
   simp only[ziE,Qd] at h
   unfold zeros at hz
   split at hz
   rotate_left
   ·grind
   rename_i w hw
   split at hz
   rotate_left
   ·grind
   rename_i l' hl'
   obtain⟨h1,h2⟩:=ziF (S:=S) (hp:=hp) (L:=L) (base:=base) h.2 hl'
   have h3:=h.1
   unfold zsk at h3
   unfold zrO at hw
   have key:zbi v=true/\gam X S hp L base w v:=by
    cases hc:ck X T with
    | int k lo hi=>
      rw[hc] at h3 hw
      cases hw
      simp only at h3
      split at h3
      ·rename_i k' n
       simp only[Qd,decide_eq_true_eq] at h3
       obtain⟨rfl,rfl⟩:=h3
       exact⟨rfl,by simp only[gam]; exact⟨trivial,by cases k' <;> decide⟩⟩
      grind
    | bool=>
      rw[hc] at h3 hw
      cases hw
      simp only at h3
      split at h3
      ·rename_i b
       cases b with
       | true=>grind
       | false=>exact⟨rfl,by rfl⟩
      grind
    | str=>
      rw[hc] at h3 hw
      simp only at h3
      split at h3
      ·rename_i s
       have:=Qb h3
       have:s=⟨#[]⟩:=by
        cases s with
        | mk d=>congr 1; exact Array.eq_empty_of_size_eq_zero this
       exact⟨rfl,by grind[gam]⟩
      grind
    | ptr t=>
      rw[hc] at h3 hw
      cases hw
      simp only at h3
      split at h3
      ·exact⟨rfl,by rfl⟩
      grind
    | sl e=>
      rw[hc] at h3 hw
      cases hw
      simp only at h3
      split at h3
      ·simp only[Qd] at h3
       have h4:=Qb h3.1
       have h5:=Qb h3.2
       subst h4 h5
       exact⟨rfl,by rfl⟩
      grind
    | ss e=>grind
    | no=>grind
   grind[gams]
theorem ziG {α β:Type} {f:α->Option β}:∀{l:List α},(∀x∈l,∃y,f x=some y)->∃ys,l.mapM f=some ys
 | [],_=>⟨[],rfl⟩
 | a :: l,h=>by
   obtain⟨y,hy⟩:=h a (by simp)
   obtain⟨ys,hys⟩:=ziG λx hx=>h x (QB _ hx)
   simp_all
end
section
variable {X:Cx}
theorem zsn (hfl:X.fl=flP X.P 12) (hc:zsm X=true) {s:TypeId} {fs:Array Field} {f:Nat} {fd:Field} (hs:und X s=some (.struct fs)) (hf:fs[f]?= some fd):
 fd.offset+sz X fd.type<=sz X s/\∀i ct,(X.fl fd.type)[i]?= some ct->(X.fl s)[fd.offset+i]?= some ct:=by
 have hi:=zci hs
 have hu:=zat hs
 obtain⟨o,hr⟩:=zqa hc hi
 have hl:fs.toList[f]?= some fd:=by grind
 obtain⟨-,h2,h3⟩:=zoV (o.offs fs hu) hl
 have hfs:=zuq hfl o hr
 rw[hu] at hfs
 rw[hfl] at hfs ⊢
 grind[szF,zgo]
theorem zwG (hfl:X.fl=flP X.P 12) (hc:zsm X=true) {t n e:Nat} (hs:und X t=some (.array n e)) {j:Nat} (hj:j < n):
 j * sz X e+sz X e<=sz X t/\∀i ct,(X.fl e)[i]?= some ct->(X.fl t)[j * sz X e+i]?= some ct:=by
 have hi:=zci hs
 have hu:=zat hs
 obtain⟨o,hr⟩:=zqa hc hi
 have hfs:=zuq hfl o hr
 rw[hu] at hfs
 refine⟨?_,λi ct hct=>?_⟩
 ·have h1:sz X t=n * sz X e:=by grind[sz,List.map_replicate,List.sum_replicate_nat]
  rw[h1,<-Nat.succ_mul]
  exact Qt _ hj
 grind[zoW,sz]
theorem zeb (hfl:X.fl=flP X.P 12) (hc:zsm X=true) {t:TypeId} (hi:inT X t=true):X.P.cellsOf t=sz X t:=by grind[szF,zqa,OkT.sz]
theorem zwH (hfl:X.fl=flP X.P 12) (hc:zsm X=true) {S:TY}:∀{d:Nat} {t:TypeId} {vs:List Value},zsl X d t=true->vs.length=sz X t->zau X S (zcO X t) vs->∃la,X.P.keyLits d t vs=some la
 | 0,t,vs,h,_,_=>by cases h
 | d+1,t,vs,h,hl,ht=>by
   unfold zsl at h
   have one:∀{dd:TypeDesc},und X t=some dd->(∀fs,dd≠.struct fs)->(∀n e,dd≠.array n e)->∃v,vs=[v]/\okC X S t v:=λ{dd} hu h1 h2=>by
    obtain⟨o,hr⟩:=zqa hc (zci hu)
    have hf:=zuq hfl o hr
    rw[zat hu] at hf
    obtain⟨v,hv,hk⟩:=ht 0 t (by grind[zcO])
    have:vs.length=1:=by grind[sz]
    match vs,this,hv with
    | [w],_,hv=>grind
   split at h
   ·rename_i q hu
    obtain⟨v,rfl,hk⟩:=one hu (by simp) (by simp)
    unfold okC at hk
    rw[zoX (zqa hc (zci hu)).2,hu] at hk
    obtain⟨x,rfl,h1,h2⟩:=hk
    rw[zoC (zat hu),if_pos (by grind[zwl,zwm,Lit.wf])]
    simp
   ·rename_i hu
    obtain⟨v,rfl,hk⟩:=one hu (by simp) (by simp)
    unfold okC at hk
    rw[zoX (zqa hc (zci hu)).2,hu] at hk
    obtain⟨b,rfl⟩:=hk
    rw[Program.keyLits.eq_def]
    dsimp only
    rw[zat hu]
    simp
   ·rename_i hu
    obtain⟨v,rfl,hk⟩:=one hu (by simp) (by simp)
    unfold okC at hk
    rw[zoX (zqa hc (zci hu)).2,hu] at hk
    obtain⟨b,rfl,hb⟩:=hk
    rw[zia (zat hu),if_pos (Qm hb (by decide))]
    simp
   ·rename_i n e hu
    have hce:inT X e=true:=by cases d<;>grind[zsl,zci]
    have hs:=zeb hfl hc (zci hu)
    have hse:=zeb hfl hc hce
    have:∀i∈List.range n,∃y,X.P.keyLits d e ((vs.drop (i * X.P.cellsOf e)).take (X.P.cellsOf e))=some y:=λi hi=>by
     have hi:=List.mem_range.1 hi
     obtain⟨h1,h2⟩:=zwG hfl hc hu hi
     rw[hse]
     refine zwH (S:=S) hfl hc h (by grind) λj U hU=>?_
     obtain⟨v,hv,hk⟩:=ht _ _ (h2 j U hU)
     refine⟨v,?_,hk⟩
     rw[List.getElem?_take_of_lt (by exact (Qo.1 hU).1),QX]
     omega
    obtain⟨ys,hys⟩:=ziG this
    rw[Program.keyLits.eq_def]
    dsimp only
    rw[zat hu]
    simp_all
   ·rename_i fs hu
    simp only[Qd] at h
    have hs:=zeb hfl hc (zci hu)
    have:∀f∈fs.toList,∃y,X.P.keyLits d f.type ((vs.drop f.offset).take (X.P.cellsOf f.type))=some y:=λf hf=>by
     have hkf:=Qz.1 h.2 f hf
     have hce:inT X f.type=true:=by cases d<;>grind[zsl,zci]
     have hse:=zeb hfl hc hce
     obtain⟨i,hi⟩:=List.getElem?_of_mem hf
     obtain⟨h1,h2⟩:=zsn hfl hc (f:=i) hu (by simpa using hi)
     rw[hse]
     refine zwH (S:=S) hfl hc hkf (by grind) λj U hU=>?_
     obtain⟨v,hv,hk⟩:=ht _ _ (h2 j U hU)
     refine⟨v,?_,hk⟩
     rw[List.getElem?_take_of_lt (by exact (Qo.1 hU).1),QX]
     omega
    obtain⟨ys,hys⟩:=ziG this
    rw[zib (zat hu),if_pos ⟨by omega,h.1⟩,hys]
    simp
   grind
theorem XOk.of (hfl:X.fl=flP X.P 12) (hc:zsm X=true) (hk:∀t,X.ke t=true->zsl X 40 t=true/\isAgg X t=some true/\X.P.keyTypeAt 40 t=true)
 (d1:∀S g h h',X.D S g h->(∀b,S.dv b->h'.get b=h.get b)->h.next<=h'.next->X.D S g h')
 (d2:∀S S' g h,X.D S g h->S'.dev=S.dev->(∀b,S'.dv b↔S.dv b)->X.D S' g h):XOk X where
 dfr:=d1
 dS:=d2
 field:=λs fs f fd hs hf=>(zsn hfl hc hs hf).2
 fieldLe:=λs fs f fd hs hf=>(zsn hfl hc hs hf).1
 elem:=λt n e hs j hj=>(zwG hfl hc hs hj).2
 elemLe:=λt n e hs j hj=>(zwG hfl hc hs hj).1
 cells:=by grind[zeb,zmy]
 info:=by grind[zxT,zci,zur,zat]
 one:=λt h=>by
  obtain⟨o,hr⟩:=zqa hc (zea h)
  rw[zuq hfl o hr]
  have:=zbG h
  grind[aggT]
 agg:=λt h=>by
  obtain⟨o,hr⟩:=zqa hc (zea h)
  rw[zoX hr,zxS (zea h)]
  have:=zbG h
  grind[aggT]
 pos:=λt h=>by
  have hi:=zea h
  rw[<-zeb hfl hc hi]
  unfold inT at hi
  cases hz:X.P.cellsOf t<;>simp_all
 r4:=by rw[hfl]; rfl
 sh:=λT h=>by rw[hfl]; grind[flP]
 sp1:=λT h hi=>by
  have:=zvi (zqa hc (zmy hi)).2
  grind
 ke:=λS t vs h hl ht=>by
  obtain⟨h1,h2,_⟩:=hk t h
  obtain⟨la,hla⟩:=zwH (S:=S) hfl hc h1 hl ht
  have hi:=zea h2
  rw[zkA]
  ·grind
  ·unfold Value.formed
   have:=zbG h2
   grind[aggT,zeb]
 ka:=by grind
 kt:=by grind
 zero:=λt hi hz=>by
  obtain⟨o,hr⟩:=zqa hc (zmy hi)
  obtain⟨zs,h1,h2,h8⟩:=o.zero (.inl hz)
  obtain⟨h3,h4⟩:=zgq h2
  refine⟨zs,h1,h3.symm,λS i T hT=>?_⟩
  obtain⟨v,hv,hz2⟩:=h4 i T hT
  have:=Qz.1 hz T (QP hT)
  refine⟨v,hv,zus ?_ hz2 (λt q=>?_) S⟩
  ·exact h8 T (QP hT)
  grind
 zc:=λt i hi hz=>by
  have hin:(inf X t).isSome=true:=by grind
  obtain⟨o,hr⟩:=zqa hc (zmy hin)
  obtain⟨zs,h1,h2,h8⟩:=o.zero (.inl hz)
  obtain⟨h3,h4⟩:=zgq h2
  have h5:=zeb hfl hc (zmy hin)
  grind[zcy,zao,sz,Program.cellsOf]
 zeros:=λt l hs hz=>by
  have hi:inT X t=true:=by grind[zkJ,zci]
  obtain⟨o,hr⟩:=zqa hc hi
  obtain⟨zs,h1,h2,_⟩:=o.zero (by grind)
  exact⟨zs,h1,(ziF (S:=⟨λ_=>none,0,λ_=>False⟩) (hp:=⟨.nil,0⟩) (L:=λ_=>none) (base:=0) h2 hz).1,by grind[ziF]⟩
end
set_option maxRecDepth 100000
theorem zvj (X:Cx) (a:FuncId->Option FS) (f:FuncId) (s:FS):Val { X with sp:=a } f s=Val X f s:=by kernel_rfl
theorem zwI (X:Cx) (a:FuncId->Option FS):zsm { X with sp:=a }= zsm X:=by kernel_rfl
theorem zwJ (X:Cx) (a:FuncId->Option FS) (n:Nat) (t:TypeId):zsl { X with sp:=a } n t=zsl X n t:=by kernel_rfl
structure XA (X:Cx):Prop where
 fl:X.fl=flP X.P 12
 chk:zsm X=true
 key:∀t,X.ke t=true->zsl X 40 t=true/\isAgg X t=some true/\X.P.keyTypeAt 40 t=true
 d1:∀S g h h',X.D S g h->(∀b,S.dv b->h'.get b=h.get b)->h.next<=h'.next->X.D S g h'
 d2:∀S S' g h,X.D S g h->S'.dev=S.dev->(∀b,S'.dv b↔S.dv b)->X.D S' g h
theorem XA.sp {X:Cx} (A:XA X) (a:FuncId->Option FS):XOk { X with sp:=a }:=
 XOk.of A.fl ((zwI X a).trans A.chk) (λt h=>by rw[zwJ]; exact A.key t h) A.d1 A.d2
def spF:List (FuncId×FS)->FuncId->Option FS
 | [],_=>none
 | (g,s) :: r,f=>match Nat.beq g f with | true=>some s | false=>spF r f
def VT (X:Cx) (l:List (FuncId×FS)):Prop:=∀f s,spF l f=some s->Val X f s
theorem vn {X:Cx}:VT X []:=λf s h=>by cases h
theorem va {X:Cx} {f:FuncId} {s:FS} {l:List (FuncId×FS)} (v:Val X f s) (t:VT X l):VT X ((f,s) :: l):=λg u h=>by
 unfold spF at h
 cases hb:Nat.beq f g with
 | true=>rw[hb] at h; cases h; cases Qb hb; exact v
 | false=>rw[hb] at h; exact t g u h
def zfG (X:Cx) (l:List (FuncId×FS)):Cx:={ X with sp:=spF l }
theorem vtX {X:Cx} (A:XA X) {f:FuncId} {s:FS} {l:List (FuncId×FS)} (hs:List LH) (t:VT X l) (hk:X.K f=none) (h:∀ρ g Q,s.s ρ g Q->tcF (zfG X l) s.pu hs f s.rs (instAs s.ps ρ) g Q):Val X f s:=by
 have O' : XOk (zfG X l):=A.sp _
 have V' : ∀f s,(zfG X l).sp f=some s->Val (zfG X l) f s:=λf s q=>by
  unfold zfG
  rw[zvj]
  exact t f s q
 have:Val (zfG X l) f s:=λρ g Q H=>zsj (X:=zfG X l) O' V' hk (h ρ g Q H)
 unfold zfG at this
 rw[zvj] at this
 exact this
open Go.Proofs
theorem znS {K:Xs} (hk:K 13=none) (a:Int) (h:AH) (Q:Value->AH->Prop) (H:
 ∀b:Int,b=(if 0 > (a:Int) then 0 else (a:Int))->∀d:Int,d=(if 1024 < (b:Int) then 1024 else (b:Int))->(0<=d/\d<=d/\d<=9223372036854775807/\(128:Int) * d<=281474976710656)/\∀e,e=h.alloc (.cells ((List.replicate (d.toNat) (List.replicate 128 (.int .u8 0):List Value)).flatten) 41 false)->
 (0<=d/\d<=d/\d<=9223372036854775807/\(128:Int) * d<=281474976710656)/\∀f,f=e.alloc (.cells ((List.replicate (d.toNat) (List.replicate 128 (.int .u8 0):List Value)).flatten) 41 false)->
 aL f [(.slice (some ⟨h.next,0,none⟩) (d.toNat) (d.toNat)),(.slice (some ⟨e.next,0,none⟩) (d.toNat) (d.toNat)),.slice none 0 0,.int .i64 0,(.int .i64 (-1)),.bool false] 79 λg=>Q (.pointer (some ⟨f.next,0,none⟩)) g):
 Wt K 13 [.int .i64 a] h Q:=
  zaj (hs:=[]) hk (Eq.mpr (by kernel_rfl) H)
theorem zgr {K:Xs} (hk:K 28=none) (a:Option Addr) (b:Int) (h:AH) (Q:Value->AH->Prop) (H:
 ∀d:Int,d=(if (-1) > (b:Int) then (-1) else (b:Int))->zag a λe f=>(sT h e (f+4) (.int .i64 d) λg=>(Q (.tuple #[]) g))):
 Wt K 28 [.pointer a,.int .i64 b] h Q:=
  zaj (hs:=[]) hk (Eq.mpr (by kernel_rfl) H)
theorem zgs {K:Xs} (hk:K 29=none) (a:Option Addr) (b:Option Addr) (d e:Nat) (h:AH) (Q:Value->AH->Prop) (H:
 zag a λf g=>(lS h f (g+2) λi j k=>(∃l:Int->Nat->AH->Prop,(∃n,l 0 n h)/\
 ∀(m:Nat) (o:AH),∀(p:Int),l p m o->
 (p < (j:Int)->zag i λq r=>(0<=p/\p < (j:Int)/\
 (∃l12:List Value,ldN o q (r+p.toNat * 129) 129=some l12/\
 (∀s,s=o.alloc (.cells ([.int .i64 0] ++ List.replicate 128 (.int .u8 0)) 125 false)->
 (List.length l12=129)/\∃t,stN s o.next 0 l12=some t/\
 ((p < (d:Int)->zag b λu v=>(0<=p/\p < (d:Int)/\
 (((ld1 t u (v+p.toNat * 1)=some (.bool true)/\
 (zag a λw x=>(lS t w x λy z aa=>(lI t o.next 0 λab=>(∃l23:List Value,ldN t o.next 1 128=some l23/\
 (zag y λac ad=>(0<=ab/\ab < (z:Int)/\
 ((List.length l23=128)/\∃ae,stN t ac (ad+ab.toNat * 128) l23=some ae/\
 (wI (p+1) λaf=>∃ag,ag < m/\l af ag ae)))))))))\/(ld1 t u (v+p.toNat * 1)=some (.bool false)/\
 (wI (p+1) λah=>∃ag,ag < m/\l ah ag t))))))/\
 (¬p < (d:Int)->wI (p+1) λai=>∃ag,ag < m/\l ai ag t))))))/\
 (¬p < (j:Int)->zag a λaj ak=>(sT o aj (ak+2) (.slice none 0 0) λal=>(zag a λam an=>(lS al am (an+1) λao ap aq=>(zag a λar au=>(lS al ar au λav aw ax=>(∃(ay:Int) (az:AH),zak Tryz.prog al .copy #[76,76] [.slice ao ap aq,.slice av aw ax]=some (.int .i64 ay,az)/\
 (zag a λa0 a1=>(sT az a0 (a1+4) (.int .i64 (-1)) λa2=>(zag a λa3 a4=>(sT a2 a3 (a4+5) (.bool false) λa5=>(Q (.tuple #[]) a5))))))))))))))):
 Wt K 29 [.pointer a,.slice b d e] h Q:=
  zaj (hs:=[(1,[(11,.int .i64 0)])]) hk (Eq.mpr (by kernel_rfl) H)
theorem ziH {K:Xs} (hk:K 31=none) (a:Option Addr) (b:Int) (la2:List Value) (h:AH) (Q:Value->AH->Prop) (H:
 aL h la2 41 λd=>Wt K 47 [.pointer a,.int .i64 b] d λe f=>
 (((e=(.bool true)/\
 (zag a λg i=>(lS f g i λj k l=>(∃l8:List Value,ldN f h.next 0 128=some l8/\
 (zag j λm o=>(0<=b/\b < (k:Int)/\
 ((List.length l8=128)/\∃p,stN f m (o+b.toNat * 128) l8=some p/\
 (zag a λq r=>(lS p q (r+1) λs t u=>(∃l17:List Value,ldN p h.next 0 128=some l17/\
 (zag s λv w=>(0<=b/\b < (t:Int)/\
 ((List.length l17=128)/\∃x,stN p v (w+b.toNat * 128) l17=some x/\
 (zag a λy z=>(lS x y (z+2) λaa ab ac=>(∃ad:Int->Nat->AH->Prop,(∃n,ad 0 n x)/\
 ∀(ae:Nat) (af:AH),∀(ag:Int),ad ag ae af->
 (ag < (ab:Int)->zag a λah ai=>(lS af ah (ai+2) λaj ak al=>(zag aj λam an=>(0<=ag/\ag < (ak:Int)/\
 (lI af am (an+ag.toNat * 129) λao=>((ao=b->zag a λap aq=>(lS af ap (aq+2) λar au av=>(∃l44:List Value,ldN af h.next 0 128=some l44/\
 (zag ar λaw ax=>(0<=ag/\ag < (au:Int)/\
 ((List.length l44=128)/\∃ay,stN af aw ((ax+ag.toNat * 129)+1) l44=some ay/\
 (wI (ag+1) λaz=>∃a0,a0 < ae/\ad az a0 ay)))))))/\
 (¬ao=b->wI (ag+1) λa1=>∃a0,a0 < ae/\ad a1 a0 af)))))))/\
 (¬ag < (ab:Int)->Q (.int .i64 0) af)))))))))))))))))\/(e=(.bool false)/\
 (Q (.int .i64 41) f))))):
 Wt K 31 [.pointer a,.int .i64 b,.agg la2.toArray] h Q:=
  zaj (hs:=[(6,[(31,.int .i64 0)])]) hk (Eq.mpr (by kernel_rfl) H)
theorem ziI {K:Xs} (hk:K 42=none) (a:Option Addr) (h:AH) (Q:Value->AH->Prop) (H:
 zag a λb d=>(lS h b d λe f g=>(Q (.int .i64 (f:Int)) h))):
 Wt K 42 [.pointer a] h Q:=
  zaj (hs:=[]) hk (Eq.mpr (by kernel_rfl) H)
theorem ziJ {K:Xs} (hk:K 47=none) (a:Option Addr) (b:Int) (h:AH) (Q:Value->AH->Prop) (H:
 (0<=b->zag a λd e=>(lS h d e λf g i=>((b < (g:Int)->Q (.bool true) h)/\
 (¬b < (g:Int)->Q (.bool false) h))))/\
 (¬0<=b->Q (.bool false) h)):
 Wt K 47 [.pointer a,.int .i64 b] h Q:=
  zaj (hs:=[]) hk (Eq.mpr (by kernel_rfl) H)
theorem zha {K:Xs} (hk:K 68=none) (a:Option Addr) (h:AH) (Q:Value->AH->Prop) (H:
 zag a λb d=>(((ld1 h b (d+5)=some (.bool true)/\
 (Q (.bool true) h))\/(ld1 h b (d+5)=some (.bool false)/\
 (Q (.bool false) h))))):
 Wt K 68 [.pointer a] h Q:=
  zaj (hs:=[]) hk (Eq.mpr (by kernel_rfl) H)
theorem zgt {K:Xs} (hk:K 114=none) (a:Option Addr) (h:AH) (Q:Value->AH->Prop) (H:
 Wt K 176 [.pointer a] h λb d=>
 (Wt K 177 [.pointer a] d λe f=>
 (((e=(.bool true)/\
 (zag a λg i=>(lS f g (i+2) λj k l=>(∃m:Int->Nat->AH->Prop,(∃n,m 0 n f)/\
 ∀(o:Nat) (p:AH),∀(q:Int),m q o p->
 (q < (k:Int)->zag j λr s=>(0<=q/\q < (k:Int)/\
 (∃l16:List Value,ldN p r (s+q.toNat * 129) 129=some l16/\
 (∀t,t=p.alloc (.cells ([.int .i64 0] ++ List.replicate 128 (.int .u8 0)) 125 false)->
 (List.length l16=129)/\∃u,stN t p.next 0 l16=some u/\
 (zag a λv w=>(lS u v w λx y z=>(lI u p.next 0 λaa=>(∃l25:List Value,ldN u p.next 1 128=some l25/\
 (zag x λab ac=>(0<=aa/\aa < (y:Int)/\
 ((List.length l25=128)/\∃ad,stN u ab (ac+aa.toNat * 128) l25=some ad/\
 (wI (q+1) λae=>∃af,af < o/\m ae af ad))))))))))))/\
 (¬q < (k:Int)->zag a λag ah=>(sT p ag (ah+2) (.slice none 0 0) λai=>(Q (.int .i64 0) ai)))))))\/(e=(.bool false)/\
 (Q (.int .i64 42) f)))))):
 Wt K 114 [.pointer a] h Q:=
  zaj (hs:=[(5,[(15,.int .i64 0)])]) hk (Eq.mpr (by kernel_rfl) H)
theorem zgu {K:Xs} (hk:K 115=none) (a:Option Addr) (b:Int) (la2:List Value) (h:AH) (Q:Value->AH->Prop) (H:
 aL h la2 41 λd=>Wt K 176 [.pointer a] d λe f=>
 (Wt K 47 [.pointer a,.int .i64 b] f λg i=>
 (((g=(.bool true)/\
 (Wt K 177 [.pointer a] i λj k=>
 (((j=(.bool true)/\
 (zag a λl m=>(lS k l (m+2) λn o p=>(∃l12:List Value,ldN k h.next 0 128=some l12/\
 (∃l13:List Value,zbA Tryz.prog 125 #[(0,(.int .i64 b)),(1,(.agg l12.toArray))]=some (.agg l13.toArray)/\
 (∃q r s t,zar Tryz.prog k 77 1 #[(0,(.agg l13.toArray))]=some (.slice q r s,t)/\
 (∃u v w x,zak Tryz.prog t .append #[77,77] [.slice n o p,.slice q r s]=some (.slice u v w,x)/\
 (zag a λy z=>(sT x y (z+2) (.slice u v w) λaa=>(zag a λab ac=>(lS aa ab (ac+1) λad ae af=>(∃l30:List Value,ldN aa h.next 0 128=some l30/\
 (zag ad λag ah=>(0<=b/\b < (ae:Int)/\
 ((List.length l30=128)/\∃ai,stN aa ag (ah+b.toNat * 128) l30=some ai/\
 (Q (.int .i64 0) ai))))))))))))))))\/(j=(.bool false)/\
 (Q (.int .i64 42) k))))))\/(g=(.bool false)/\
 (Q (.int .i64 41) i)))))):
 Wt K 115 [.pointer a,.int .i64 b,.agg la2.toArray] h Q:=
  zaj (hs:=[]) hk (Eq.mpr (by kernel_rfl) H)
theorem zgv {K:Xs} (hk:K 176=none) (a:Option Addr) (h:AH) (Q:Value->AH->Prop) (H:
 zag a λb d=>(lI h b (d+3) λe=>((e < 4611686018427387903->zag a λf g=>(lI h f (g+3) λi=>(wI (i+1) λj=>zag a λk l=>(sT h k (l+3) (.int .i64 j) λm=>(Q (.tuple #[]) m)))))/\
 (¬e < 4611686018427387903->Q (.tuple #[]) h)))):
 Wt K 176 [.pointer a] h Q:=
  zaj (hs:=[]) hk (Eq.mpr (by kernel_rfl) H)
abbrev zdn (K:Xs) (Q:Value->AH->Prop) (n:AH) (o:Nat) (p:Nat) (a:Option Addr):Prop:=
 (((ld1 n o (p+5)=some (.bool true)/\
 (Q (.bool false) n))\/(ld1 n o (p+5)=some (.bool false)/\
 (zag a λq r=>(lI n q (r+4) λs=>(((0:Int) < s->zag a λt u=>(lI n t (u+4) λv=>(wI (v - 1) λw=>zag a λx y=>(sT n x (y+4) (.int .i64 w) λz=>(Q (.bool true) z)))))/\
 (¬(0:Int) < s->Q (.bool true) n)))))))
theorem zgw {K:Xs} (hk:K 177=none) (a:Option Addr) (b:AH) (Q:Value->AH->Prop) (H:
 zag a λd e=>(lI b d (e+4) λf=>((f=0->zag a λg i=>(sT b g (i+5) (.bool true) λj=>(zag a λk l=>(zdn K Q j k l a))))/\
 (¬f=0->zag a λm n=>(zdn K Q b m n a))))):
 Wt K 177 [.pointer a] b Q:=
  zaj (hs:=[]) hk (Eq.mpr (by kernel_rfl) H)
theorem zhb {K:Xs} (hk:K 179=none) (a:Option Addr) (b:Int) (h:AH) (Q:Value->AH->Prop) (H:
 ∀d,d=h.alloc (.cells (List.replicate 128 (.int .u8 0):List Value) 41 false)->
 Wt K 176 [.pointer a] d λe f=>
 (Wt K 47 [.pointer a,.int .i64 b] f λg i=>
 (((g=(.bool true)/\
 (zag a λj k=>(((ld1 i j (k+5)=some (.bool true)/\
 (∃l7:List Value,zbA Tryz.prog 41 #[]=some (.agg l7.toArray)/\
 ((List.length l7=128)/\∃l,stN i h.next 0 l7=some l/\
 (∃l9:List Value,ldN l h.next 0 128=some l9/\
 (Q (.tuple #[.agg l9.toArray,.int .i64 42]) l)))))\/(ld1 i j (k+5)=some (.bool false)/\
 (zag a λm n=>(lS i m (n+1) λo p q=>(zag o λr s=>(0<=b/\b < (p:Int)/\
 (∃l17:List Value,ldN i r (s+b.toNat * 128) 128=some l17/\
 ((List.length l17=128)/\∃t,stN i h.next 0 l17=some t/\
 (∃l19:List Value,ldN t h.next 0 128=some l19/\
 (Q (.tuple #[.agg l19.toArray,.int .i64 0]) t)))))))))))))\/(g=(.bool false)/\
 (∃l20:List Value,zbA Tryz.prog 41 #[]=some (.agg l20.toArray)/\
 ((List.length l20=128)/\∃u,stN i h.next 0 l20=some u/\
 (∃l22:List Value,ldN u h.next 0 128=some l22/\
 (Q (.tuple #[.agg l22.toArray,.int .i64 41]) u))))))))):
 Wt K 179 [.pointer a,.int .i64 b] h Q:=
  zaj (hs:=[]) hk (Eq.mpr (by kernel_rfl) H)
end Go.Am
