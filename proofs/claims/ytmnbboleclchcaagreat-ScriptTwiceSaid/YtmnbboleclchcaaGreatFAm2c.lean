/-
  Texts of this proof, part 3. No condition.
-/
import Derived.Test.YtmnbboleclchcaaGreatFAm2a
set_option linter.unusedVariables false
set_option linter.unusedSimpArgs false
namespace Go.Am
section
variable {P:Program} {φ φ' : Fi} {h h' : AH} {w w' : World}
inductive zfW (φ:Fi):Option Value->Option Value->Prop
 | none:zfW φ none none
 | some {v v' : Value} (h:VR φ v v'):zfW φ (some v) (some v')
theorem zfW.map {e:Env} {a:Array Value} (k:zcK φ e a) (x:Option Operand):zfW φ (x.map (ev e)) (x.map (({ tmps:=a,defers:=[] }:Act).eval)):=by
 cases x with
 | none=>exact .none
 | some x=>exact .some (VR.eval k x)
theorem zc7 {v v' : Value} {y y' n:Nat} (hb:zbl v y=some n) (hv:VR φ v v') (hy:y<=y') (code:BoundsCode) (w:World):(Instr.sliceBound v' y' code).run P w=.ok n w:=by
 unfold zbl at hb
 split at hb
 ·rename_i k i
  split at hb
  ·simp only[Qa] at hb
   subst hb
   cases hv
   have:0<=i/\i<=(y' : Int):=by omega
   simp[Instr.sliceBound,asIntOf,this]
  grind
 grind
theorem zei {v:Value} {y n:Nat} (hb:zbl v y=some n):n<=y:=by
 unfold zbl at hb
 grind
theorem zby {lo lo' hi hi' mx mx' : Option Value} {len c0 cap l hh m:Nat} (hb:zbm len c0 lo hi mx=some (l,hh,m)) (h1:zfW φ lo lo') (h2:zfW φ hi hi') (h3:zfW φ mx mx') (hc:c0<=cap) (sl:Bool) (w:World):
 (Instr.sliceBounds sl len cap lo' hi' mx').run P w=.ok (l,hh,if mx.isNone then cap else m) w/\l<=hh/\(mx=none->m=c0)/\m<=c0/\(hi.isSome\/mx.isSome->hh<=m)/\(hi=none->mx=none->hh=len):=by
 unfold zbm at hb
 cases h3 with
 | none=>
   cases h2 with
   | none=>
     cases h1 with
     | none=>
       obtain⟨rfl,rfl,rfl⟩:=hb
       simp[Instr.sliceBounds]
     | some hv=>
       rename_i v v'
       cases e:zbl v len with
       | none=>grind
       | some n=>
         simp only[e,Qa,Qf] at hb
         obtain⟨rfl,rfl,rfl⟩:=hb
         refine⟨?_,zei e,λ_=>rfl,Qc _,by simp,by simp⟩
         simp[Instr.sliceBounds,zc7 e hv (Qc _)]
   | some hv2=>
     rename_i v2 v2'
     cases e2:zbl v2 c0 with
     | none=>grind
     | some n2=>
       simp only[e2] at hb
       have r2:=λcode w=>zc7 (P:=P) e2 hv2 hc code w
       have l2:=zei e2
       cases h1 with
       | none=>
         obtain⟨rfl,rfl,rfl⟩:=hb
         refine⟨?_,Qg _,λ_=>rfl,Qc _,λ_=>l2,by simp⟩
         simp[Instr.sliceBounds,r2]
       | some hv=>
         rename_i v v'
         cases e:zbl v n2 with
         | none=>grind
         | some n=>
           simp only[e,Qa,Qf] at hb
           obtain⟨rfl,rfl,rfl⟩:=hb
           refine⟨?_,zei e,λ_=>rfl,Qc _,λ_=>l2,by simp⟩
           simp[Instr.sliceBounds,r2,zc7 e hv (Qc _)]
 | some hv3=>
   rename_i v3 v3'
   cases e3:zbl v3 c0 with
   | none=>grind
   | some m3=>
     simp only[e3] at hb
     have r3:=λcode w=>zc7 (P:=P) e3 hv3 hc code w
     have l3:=zei e3
     cases h2 with
     | none=>grind
     | some hv2=>
       rename_i v2 v2'
       cases e2:zbl v2 m3 with
       | none=>grind
       | some n2=>
         simp only[e2] at hb
         have r2:=λcode w=>zc7 (P:=P) e2 hv2 (Qc _) code w
         have l2:=zei e2
         cases h1 with
         | none=>
           obtain⟨rfl,rfl,rfl⟩:=hb
           refine⟨?_,Qg _,by simp,l3,λ_=>l2,by simp⟩
           simp[Instr.sliceBounds,r2,r3]
         | some hv=>
           rename_i v v'
           cases e:zbl v n2 with
           | none=>grind
           | some n=>
             simp only[e,Qa,Qf] at hb
             obtain⟨rfl,rfl,rfl⟩:=hb
             refine⟨?_,zei e,by simp,l3,λ_=>l2,by simp⟩
             simp[Instr.sliceBounds,r2,r3,zc7 e hv (Qc _)]
theorem zmX (r:R P φ h w) {t:TypeId} {x x' u:Value} {lo lo' hi hi' mx mx' : Option Value} (hs:zay P h t x lo hi mx=some u) (hx:VR φ x x') (h1:zfW φ lo lo') (h2:zfW φ hi hi') (h3:zfW φ mx mx'):
 ∃u',(Instr.sliceAt t x' lo' hi' mx').run P w=.ok u' w/\VR φ u u':=by
 unfold zay at hs
 split at hs
 ·rename_i n elem b off hu
  split at hs
  ·rename_i l hh m hb
   split at hs
   ·rename_i hi2
    simp only[Qa] at hs
    subst hs
    obtain⟨hr,hle,hm1,hm2,hm3,hm4⟩:=zby (P:=P) hb h1 h2 h3 (Qc _) false w
    have hm:(if mx.isNone then n else m)=m:=by simp_all
    cases hx with
    | ptr hφ=>
      rename_i rc
      refine⟨.slice (some ⟨rc.blk,rc.shift+(if m=l then off else off+l * P.cellsOf elem),none⟩) (hh - l) (m - l),?_,.slice hφ (by omega)⟩
      simp only[Instr.sliceAt,Sem.run_bind,zac hu,Result.andThen_ok,Instr.sureAddr,Sem.run_pure,hr,zaC hi2.1]
      grind[zbe]
   grind
  grind
 ·rename_i arr b off hu
  split at hs
  ·rename_i n elem hu2
   split at hs
   ·rename_i l hh m hb
    split at hs
    ·rename_i hi2
     simp only[Qa] at hs
     subst hs
     obtain⟨hr,hle,hm1,hm2,hm3,hm4⟩:=zby (P:=P) hb h1 h2 h3 (Qc _) false w
     have hm:(if mx.isNone then n else m)=m:=by simp_all
     cases hx with
     | ptr hφ=>
       rename_i rc
       refine⟨.slice (some ⟨rc.blk,rc.shift+(if m=l then off else off+l * P.cellsOf elem),none⟩) (hh - l) (m - l),?_,.slice hφ (by omega)⟩
       simp only[Instr.sliceAt,Instr.slice,Sem.run_bind,zac hu,zac hu2,Result.andThen_ok,asAddr,Sem.run_pure,hr,zaC hi2.1]
       grind[zbe]
    grind
   grind
  grind
 ·rename_i s hu
  split at hs
  ·rename_i l hh m hb
   simp only[Qa] at hs
   subst hs
   cases hx
   cases h3
   obtain⟨hr,_⟩:=zby (P:=P) hb h1 h2 .none (Qc _) false w
   refine⟨_,?_,.string _⟩
   simp only[Instr.sliceAt,Instr.slice,Sem.run_bind,zac hu,Result.andThen_ok,Option.isSome_none,Bool.false_eq_true,if_false,Sem.run_pure,hr]
  grind
 ·rename_i elem len cap hu
  split at hs
  ·rename_i l hh m hb
   split at hs
   ·rename_i hi2
    simp only[Qa] at hs
    subst hs
    cases hx
    obtain⟨hr,hle,hm1,hm2,hm3,hm4⟩:=zby (P:=P) hb h1 h2 h3 (Qc _) true w
    have hm:(if mx.isNone then cap else m)=m:=by simp_all
    rw[hm] at hr
    refine⟨.slice none (hh - l) (m - l),?_,.sliceNil _ _ (by omega)⟩
    simp only[Instr.sliceAt,Instr.slice,Sem.run_bind,zac hu,Result.andThen_ok,Sem.run_pure,hr,zaC hi2.1]
    simp
   grind
  grind
 ·rename_i elem b off len cap hu
  split at hs
  ·rename_i hi2
   split at hs
   ·rename_i hcap
    split at hs
    ·rename_i l hh m cs0 e ro hb hg
     split at hs
     ·split at hs
      ·rename_i hsz
       simp only[Qa] at hs
       subst hs
       cases h3
       cases hx with
       | slice hφ hc=>omega
       | sliceO hφ hc hn ht=>
         rename_i c' rc
         obtain⟨hr,hle,hm1,hm2,hm3,hm4⟩:=zby (P:=P) hb h1 h2 .none hn true w
         obtain⟨C,m',pre,mid,post,ho,hes,htot,hC,hsh,hlr,hnf⟩:=r.cells hg hφ
         have hhl:hh<=len:=by cases hi<;>grind
         by_cases hcl:c'= l
         ·refine⟨.slice (some ⟨rc.blk,rc.shift+off,none⟩) 0 0,?_,?_⟩
          ·simp only[Instr.sliceAt,Instr.slice,Sem.run_bind,zac hu,Result.andThen_ok,Sem.run_pure,hr,zaC hi2,if_true]
           grind
          ·have:hh - l=0:=by omega
           rw[this]
           exact .sliceE hφ (.inl rfl)
         ·refine⟨.slice (some ⟨rc.blk,rc.shift+(off+l * P.cellsOf elem),none⟩) (hh - l) (c' - l),?_,.sliceO hφ (by omega) (by omega) ?_⟩
          ·simp only[Instr.sliceAt,Instr.slice,Sem.run_bind,zac hu,Result.andThen_ok,Sem.run_pure,hr,zaC hi2,hcl,if_false]
           grind[zbe]
          ·rw[hes,hsz] at ht ⊢
           have:(c' - l) * P.cellsOf elem+l * P.cellsOf elem=c' * P.cellsOf elem:=by rw[<-QQ]; grind
           omega
       | sliceE hφ ha'=>
         rename_i a' rc
         obtain⟨hr,hle,hm1,hm2,hm3,hm4⟩:=zby (P:=P) (cap:=0) hb h1 h2 .none (Qc _) true w
         have hhl:hh<=0:=by cases hi<;>grind
         have hl0:l=0:=by omega
         have hh0:hh=0:=by omega
         subst hl0 hh0
         refine⟨.slice (some a') 0 0,?_,.sliceE hφ ha'⟩
         simp[Instr.sliceAt,Instr.slice,zac hu,hr,zaC hi2]
       | sliceY=>exact absurd hcap (by decide)
      grind
     ·split at hs
      ·simp only[Qa] at hs
       subst hs
       cases hx with
       | slice hφ hc=>omega
       | sliceO hφ hc hn ht=>
         rename_i c' rc
         obtain⟨hr,hle,hm1,hm2,hm3,hm4⟩:=zby (P:=P) hb h1 h2 h3 hn true w
         refine⟨.slice (some ⟨rc.blk,rc.shift+(if m=l then off else off+l * P.cellsOf elem),none⟩) (hh - l) (m - l),?_,.slice hφ (by omega)⟩
         simp only[Instr.sliceAt,Instr.slice,Sem.run_bind,zac hu,Result.andThen_ok,Sem.run_pure,hr,zaC hi2]
         grind[zbe]
       | sliceE hφ=>omega
       | sliceY=>exact absurd hcap (by decide)
      grind
    grind
   ·split at hs
    ·split at hs
     ·rename_i l hh m hb
      simp only[Qa] at hs
      subst hs
      cases hx with
      | sliceO hφ hc hn ht=>omega
      | sliceE hφ=>omega
      | sliceY=>
        obtain⟨hr,hle,hm1,hm2,hm3,hm4⟩:=zby (P:=P) (cap:=0) hb h1 h2 h3 (Qc _) true w
        have hh0:hh=0:=by cases hi <;> cases mx <;> simp at hm3 hm4 <;> omega
        have hl0:l=0:=by omega
        have hm0:m=0:=by omega
        subst hh0 hl0 hm0
        refine⟨.slice none 0 0,?_,.sliceY _ _⟩
        simp[Instr.sliceAt,Instr.slice,zac hu,hr,zaC hi2]
      | slice hφ hc=>
        rename_i rc
        obtain⟨hr,hle,hm1,hm2,hm3,hm4⟩:=zby (P:=P) hb h1 h2 h3 (Qc _) true w
        have hm:(if mx.isNone then cap else m)=m:=by simp_all
        refine⟨.slice (some ⟨rc.blk,rc.shift+(if m=l then off else off+l * P.cellsOf elem),none⟩) (hh - l) (m - l),?_,.slice hφ (by omega)⟩
        simp only[Instr.sliceAt,Instr.slice,Sem.run_bind,zac hu,Result.andThen_ok,Sem.run_pure,hr,zaC hi2]
        grind[zbe]
     grind
    grind
  grind
 grind
theorem zon {x x' : Value} {n:Nat} (hx:VR φ x x') (hn:zjd x=some n) (w:World):(Builtin.lenOf x').run P w=.ok n w:=by
 cases hx <;> simp[zjd] at hn <;> subst hn <;> simp[Builtin.lenOf]
theorem zj5 (φ:Fi):∀(l:List UInt8),LR φ (l.map λb=>.int .u8 b.toNat) (l.map λb=>.int .u8 b.toNat)
 | []=>trivial
 | b :: l=>⟨.int _ _,rfl,zj5 φ l⟩
theorem zc8 (r:R P φ h w) {size n:Nat} {x x' : Value} {cs:List Value} (hx:VR φ x x') (hc:firstC h size n x=some cs):
 ∃ds,LR φ cs ds/\∀w2:World,w2.heap=w.heap->(Builtin.firstCells size n x').run P w2=.ok ds.toArray w2:=by
 unfold firstC at hc
 split at hc
 ·rename_i b off len cap
  have hz:∀a:Addr,n * size=0->∀w2:World,(loadCells a (n * size)).run P w2=.ok #[] w2:=by
   intro a e w2; rw[e]; rfl
  split at hc
  ·simp only[Qa] at hc
   subst hc
   refine⟨[],trivial,λw2 _=>?_⟩
   cases hx <;> first | rfl | (grind[Builtin.firstCells])
  ·split at hc
   ·rename_i cs0 e0 ro hb
    split at hc
    ·simp only[Qa] at hc
     subst hc
     have key:∀rc,φ b=some rc->∃ds,LR φ ((cs0.drop off).take (n * size)) ds/\∀w2:World,w2.heap=w.heap->(loadCells ⟨rc.blk,rc.shift+off,none⟩ (n * size)).run P w2=.ok ds.toArray w2:=by
      intro rc hφ
      obtain⟨C,m,pre,mid,post,ho,_,_,hC,hs,hlr,_⟩:=r.cells hb hφ
      have hlen:=hlr.length
      exact⟨_,(hlr.drop off).take _,λw2 h2=>zds (by rw[h2]; omega) hC hs (by omega)⟩
     cases hx with
     | slice hφ _=>exact key _ hφ
     | sliceO hφ _ _ _=>exact key _ hφ
     | sliceE hφ=>grind
     | sliceY=>grind
    grind
   grind
 ·simp only[Qa] at hc
  subst hc
  cases hx
  exact⟨[],trivial,λw2 _=>by rfl⟩
 ·simp only[Qa] at hc
  subst hc
  cases hx
  refine⟨_,zj5 φ _,λw2 _=>?_⟩
  simp[Builtin.firstCells]
  grind
 grind
end
section
variable {P:Program} {φ φ' : Fi} {h h' : AH} {w w' : World}
def zfh (P:Program) (φ:Fi) (h:AH) (w:World) (S:Sem Value) (v:Value) (h' : AH):Prop:=
 ∃φ' v' w',S.run P w=.ok v' w'/\VR φ' v v'/\Tn P φ h w φ' h' w'
theorem zbw (r:R P φ h w) {e:TypeId} {cs ds:List Value} {C:Array Value} (hf:φ h.next=none) (hl:LR φ cs ds) (hC:∃post,C.toList=ds ++ post) (n:Nat):
 ∃φ',φ' h.next=some ⟨w.heap.size,0,C.size,P.cellsOf e⟩/\Tn P φ h w φ' (h.alloc (.cells cs e false)) { w with heap:=w.heap.push (.cells C e),drawn:=w.drawn+n }:=by
 refine⟨λb=>if b=h.next then some ⟨w.heap.size,0,C.size,P.cellsOf e⟩ else φ b,by simp,?_⟩
 refine Tn.alloc r _ _ _ hf rfl ?_ n
 intro ψ hle hψ
 obtain⟨post,hp⟩:=hC
 refine⟨rfl,rfl,rfl,⟨[],ds,post,by grind,rfl,hl.mono hle⟩,λ_=>.inl rfl⟩
theorem zqy (r:R P φ h w) {t:TypeId} {x x' : Value} (hf:φ h.next=none) (hx:VR φ x x') (ht:∀xs,x≠.tuple xs):
 zfh P φ h w (Instr.box t x') (ptr h.next 0) (h.alloc (.cells x.cells.toList t false)):=by
 obtain⟨φ',h1,h2⟩:=zbw (P:=P) (e:=t) (C:=x'.cells) r hf (hx.cells ht) ⟨[],by simp⟩ 0
 refine⟨φ',_,_,?_,.ptr h1,h2⟩
 rfl
def zoo (z:Value):Bool:=match z with | .tuple _=>true | z=>z.cells.toList.all λc=>zgJ c && !zcq c
theorem zj6:∀{l:List Value},(l.all λc=>zgJ c && !zcq c)=true->LR φ l l
 | [],_=>trivial
 | c :: l,hl=>by
   simp only[List.all_cons,Qd,QJ] at hl
   exact⟨VR.plain hl.1.1,hl.1.2,zj6 (by grind)⟩
structure zdM (P:Program):Prop where
 zero:∀t i z,t < P.types.size->P.info? t=some i->i.zero=some z->zoo z=true
 dst:∀(f:Nat) (fn:Func) (c:Code),P.funcs[f]?= some fn->fn.body=some c->zaP fn.ntmps c=true
 name:∀(f:Nat) (fn:Func),P.funcs[f]?= some fn->(fn.name == "runtime.NumGoroutine")=false
 depth:50<=P.depth
theorem zlf {t:TypeId} {zs:List Value} (hz:zao P t=some zs):t < P.types.size:=by grind[zao,Q5]
theorem zbd {t:TypeId} {zs:List Value} (hz:zao P t=some zs):∃i z,P.info? t=some i/\i.zero=some z/\z.cells.toList=zs/\(∀xs,z≠.tuple xs):=by grind[zao]
theorem zbx (G:zdM P) {t:TypeId} {zs:List Value} (hz:zao P t=some zs):LR φ zs zs:=by
 obtain⟨i,z,hi,hz',rfl,hne⟩:=zbd hz
 have:=G.zero t i z (zlf hz) hi hz'
 apply zj6
 unfold zoo at this
 grind
theorem zmY (G:zdM P) (r:R P φ h w) {t:TypeId} {zs:List Value} (hz:zao P t=some zs) (hf:φ h.next=none):
 zfh P φ h w (Instr.alloc t true (.tuple #[])) (ptr h.next 0) (h.alloc (.cells zs t false)):=by
 obtain⟨i,z,hi,hz',hzs,hne⟩:=zbd hz
 obtain⟨φ',h1,h2⟩:=zbw (P:=P) (e:=t) (C:=z.cells) r hf (zbx (φ:=φ) G hz) ⟨[],by grind⟩ 0
 refine⟨φ',_,_,?_,.ptr h1,h2⟩
 simp[Instr.alloc,zdr hi hz',newVar,newRow]
theorem LR.set:∀{xs ys:List Value} (i:Nat) {v v' : Value},LR φ xs ys->VR φ v v'->zcq v=false->LR φ (xs.set i v) (ys.set i v')
 | [],[],_,_,_,_,_,_=>trivial
 | _ :: _,_ :: _,0,_,_,r,hv,hm=>⟨hv,hm,r.2.2⟩
 | _ :: _,_ :: _,i+1,_,_,r,hv,hm=>⟨r.1,r.2.1,LR.set i r.2.2 hv hm⟩
theorem LR.setAll (off:Nat):∀{vs vs' : List Value} (k:Nat) {cs cs' : Array Value},LR φ vs vs'->LR φ cs.toList cs'.toList->
 LR φ ((vs.zipIdx k).foldl (λcs p=>cs.setIfInBounds (off+p.2) p.1) cs).toList ((vs'.zipIdx k).foldl (λcs p=>cs.setIfInBounds (off+p.2) p.1) cs').toList
 | [],[],_,_,_,_,h=>by simp_all
 | _ :: _,_ :: _,k,cs,cs',r,h=>by
   exact LR.setAll off (k+1) r.2.2 (by simpa using h.set (off+k) r.1 r.2.1)
def PR (φ:Fi):List (Nat×Value)->List (Nat×Value)->Prop
 | [],[]=>True
 | x :: xs,y :: ys=>x.1=y.1/\VR φ x.2 y.2/\PR φ xs ys
 | _,_=>False
theorem zej (place place' : Nat->Option (Nat×Nat)) (hp:∀i,place i=place' i):∀{ps ps' : List (Nat×Value)} {cs cs' out:Array Value},PR φ ps ps'->(ps.any λp=>zdO p.2)=false->LR φ cs.toList cs'.toList->
 Instr.fill place cs ps=some out->∃out',Instr.fill place' cs' ps'= some out'/\LR φ out.toList out'.toList
 | [],[],cs,cs',out,_,_,hl,hf=>by grind[Instr.fill]
 | (i,v) :: ps,(j,v') :: ps',cs,cs',out,r,hn,hl,hf=>by
   obtain⟨rfl,hv,hr⟩:=r
   simp only[List.any_cons,Bool.or_eq_false_iff] at hn
   simp only[Instr.fill,<-hp] at hf ⊢
   cases hpl:place i with
   | none=>grind
   | some q=>
     obtain⟨off,size⟩:=q
     simp only[hpl] at hf ⊢
     have hlc:=hv.cells (λxs e=>by grind[zdO])
     have e1:=hlc.length
     have e2:=hl.length
     by_cases hc:(decide (v.cells.size≠size) || decide (off+v.cells.size > cs.size))=true
     ·grind
     ·have hc' : ¬(decide (v'.cells.size≠size) || decide (off+v'.cells.size > cs'.size))=true:=by grind
      simp only[hc,if_false] at hf
      simp only[hc',if_false]
      refine zej place place' hp hr hn.2 ?_ hf
      have:=LR.setAll (φ:=φ) off 0 hlc hl
      grind[Array.toList_zipIdx]
theorem zmZ (G:zdM P) {t:TypeId} {ps ps' : Array (Nat×Value)} {u:Value} (hs:zbA P t ps=some u) (hp:PR φ ps.toList ps'.toList) (w:World):
 ∃u',(Instr.build t ps').run P w=.ok u' w/\VR φ u u':=by
 unfold zbA at hs
 split at hs
 ·grind
 ·have hn' : (ps.toList.any λp=>zdO p.2)=false:=by grind
  split at hs
  ·rename_i z fs hz hu
   obtain⟨i,zv,hi,hz',rfl,hne⟩:=zbd hz
   split at hs
   ·cases hfill:Instr.fill (λi=>(fs[i]?).map λf=>(f.offset,P.cellsOf f.type)) zv.cells.toList.toArray ps.toList with
    | none=>grind
    | some out=>
      simp only[hfill,Ql,Qa] at hs
      subst hs
      have hmap:∀(l:List Field),(∀f∈l,(P.info? f.type).isSome=true)->(List.mapM (λf:Field=>(do pure (f.offset,<-sizeOf f.type):Sem (Nat×Nat))) l).run P w=.ok (l.map λf=>(f.offset,P.cellsOf f.type)) w:=by
       intro l
       induction l with
       | nil=>simp
       | cons f l ih=>
         intro hl
         simp only[List.mapM_cons,Sem.run_bind,zaC (hl f (by simp)),Result.andThen_ok,Sem.run_pure,ih (by grind),QE]
      have hplaces:(Array.mapM (λf:Field=>(do pure (f.offset,<-sizeOf f.type):Sem (Nat×Nat))) fs).run P w=.ok (fs.map λf=>(f.offset,P.cellsOf f.type)) w:=by
       rw[Array.mapM_eq_mapM_toList,Sem.run_map,hmap fs.toList (by grind)]
       simp
       grind
      obtain⟨out',h1,h2⟩:=zej (φ:=φ) (λi=>(fs[i]?).map λf=>(f.offset,P.cellsOf f.type)) ((fs.map λf=>(f.offset,P.cellsOf f.type))[·]?) (λi=>by simp) (cs':=zv.cells) hp hn' (by grind[zbx]) hfill
      refine⟨.agg out',?_,LR.agg h2⟩
      simp only[Instr.build,Sem.run_bind,zdr hi hz',Result.andThen_ok,zac hu,hplaces,h1,Sem.run_pure]
   grind
  ·rename_i z n elem hz hu
   obtain⟨i,zv,hi,hz',rfl,hne⟩:=zbd hz
   split at hs
   ·rename_i hel
    cases hfill:Instr.fill (λi=>some (i * P.cellsOf elem,P.cellsOf elem)) zv.cells.toList.toArray ps.toList with
    | none=>grind
    | some out=>
      simp only[hfill,Ql,Qa] at hs
      subst hs
      obtain⟨out',h1,h2⟩:=zej (φ:=φ) (λi=>some (i * P.cellsOf elem,P.cellsOf elem)) (λi=>some (i * P.cellsOf elem,P.cellsOf elem)) (λi=>rfl) (cs':=zv.cells) hp hn' (by grind[zbx]) hfill
      refine⟨.agg out',?_,LR.agg h2⟩
      simp only[Instr.build,Sem.run_bind,zdr hi hz',Result.andThen_ok,zac hu,zaC hel,h1,Sem.run_pure]
   grind
  grind
end
section
variable {P:Program} {φ φ' : Fi} {h h' : AH} {w w' : World}
theorem getElem?_flat_replicate (l:List Value):∀(n i:Nat),i < n * l.length->((List.replicate n l).flatten)[i]?= l[i % l.length]?
 | 0,i,hi=>by omega
 | n+1,i,hi=>by
   rw[List.replicate_succ,List.flatten_cons]
   by_cases hlt:i < l.length
   ·grind[Q0]
   ·rw[Qu (by omega)]
    rw[getElem?_flat_replicate l n (i - l.length) (by grind)]
    conv=>rhs; rw[show i=(i - l.length)+l.length by omega,Nat.add_mod_right]
theorem zhg {z:Array Value} {n s:Nat} (hz:z.size=s):((Array.range (n * s)).map (z[· % z.size]!)).toList=(List.replicate n z.toList).flatten:=by
 apply Jb
 have hlen:((List.replicate n z.toList).flatten).length=n * s:=by simp_all
 grind[getElem?_flat_replicate]
theorem LR.replicate {zs:List Value} (hz:LR φ zs zs):∀n,LR φ ((List.replicate n zs).flatten) ((List.replicate n zs).flatten)
 | 0=>trivial
 | n+1=>by
   exact hz.append (LR.replicate hz n)
theorem zhI (G:zdM P) (r:R P φ h w) {t:TypeId} {l l' c c' v:Value} {h' : AH} (hs:zaX P h t l c=some (v,h')) (hl:VR φ l l') (hc:VR φ c c') (hf:h.next < h'.next->φ h.next=none):
 zfh P φ h w (Instr.makeSlice t l' c') v h':=by
 unfold zaX at hs
 split at hs
 ·rename_i elem kl ln kc cn hu
  split at hs
  ·rename_i i zs hi hz
   split at hs
   ·rename_i hcond
    obtain⟨h0,h1,h2,h3,h4⟩:=hcond
    obtain⟨rfl,rfl⟩:=hs
    have hf0:=hf (by simp)
    cases hl
    cases hc
    obtain⟨i',z,hi',hz',rfl,hne⟩:=zbd hz
    rw[hi] at hi'
    cases hi'
    have hwl:IntKind.i64.wrap ln=ln:=by grind[IntKind.wrap,IntKind.bits]
    have hwc:IntKind.i64.wrap cn=cn:=by grind[IntKind.wrap,IntKind.bits]
    have key:∀zc:Array Value,zc=(if cn.toNat * i.size=0 then #[] else z.cells)->((Array.range (cn.toNat * i.size)).map (zc[· % zc.size]!)).toList=(List.replicate cn.toNat z.cells.toList).flatten:=by grind[zhg]
    obtain⟨φ',g1,g2⟩:=zbw (P:=P) (e:=elem) (C:=(Array.range (cn.toNat * i.size)).map (λk=>(if cn.toNat * i.size=0 then (#[]:Array Value) else z.cells)[k % (if cn.toNat * i.size=0 then (#[]:Array Value) else z.cells).size]!)) r hf0
     ((zbx (φ:=φ) G hz).replicate cn.toNat) ⟨[],by grind⟩ 0
    have ht1:¬(cn < 0):=by omega
    have ht2:¬((i.bytes:Int) * cn > 2 ^ 48):=by omega
    have ht3:¬(ln < 0):=by omega
    have ht4:¬(ln > cn):=by omega
    refine⟨φ',.slice (some ⟨w.heap.size,0,none⟩) ln.toNat cn.toNat,_,?_,by simpa using VR.slice (n:=ln.toNat) (off:=0) g1 (by grind[zai]),g2⟩
    by_cases h00:cn.toNat * i.size=0
    ·simp[Instr.makeSlice,zac hu,asInt,asIntOf,typeInfo,hi,hwl,hwc,ht1,ht2,ht3,ht4,zaC (show (P.info? elem).isSome=true by grind),Program.cellsOf,h00,newRow]
     omega
    ·simp[Instr.makeSlice,zac hu,asInt,asIntOf,typeInfo,hi,hwl,hwc,ht1,ht2,ht3,ht4,zaC (show (P.info? elem).isSome=true by grind),Program.cellsOf,h00,newRow,zdr hi hz']
     omega
   grind
  grind
 grind
theorem zg3 (G:zdM P) (r:R P φ h w) {t:TypeId} {n:Nat} {ps ps' : Array (Nat×Value)} {v:Value} {h' : AH} (hs:zar P h t n ps=some (v,h')) (hp:PR φ ps.toList ps'.toList) (hf:h.next < h'.next->φ h.next=none):
 zfh P φ h w (Instr.buildSlice t n ps') v h':=by
 unfold zar at hs
 split at hs
 ·grind
 ·have hn' : (ps.toList.any λp=>zdO p.2)=false:=by grind
  split at hs
  ·rename_i elem hu
   split at hs
   ·rename_i i zs hi hz
    split at hs
    ·rename_i hcond
     obtain⟨hle,hzl,hoc⟩:=hcond
     obtain⟨i',z,hi',hz',rfl,hne⟩:=zbd hz
     rw[hi] at hi'
     cases hi'
     split at hs
     ·rename_i out hfill
      obtain⟨rfl,rfl⟩:=hs
      have hf0:=hf (by simp)
      have key:((Array.range (n * i.size)).map (λk=>(if n * i.size=0 then (#[]:Array Value) else z.cells)[k % (if n * i.size=0 then (#[]:Array Value) else z.cells).size]!)).toList=(List.replicate n z.cells.toList).flatten:=by
       all_goals grind[zhg]
      obtain⟨out',f1,f2⟩:=zej (φ:=φ) (λj=>some (j * i.size,i.size)) (λj=>some (j * i.size,i.size)) (λ_=>rfl)
       (cs':=(Array.range (n * i.size)).map (λk=>(if n * i.size=0 then (#[]:Array Value) else z.cells)[k % (if n * i.size=0 then (#[]:Array Value) else z.cells).size]!)) hp hn'
       (by grind[zbx,LR.replicate]) hfill
      obtain⟨φ',g1,g2⟩:=zbw (P:=P) (e:=elem) (C:=out') r hf0 f2 ⟨[],by simp⟩ 0
      refine⟨φ',.slice (some ⟨w.heap.size,0,none⟩) n n,_,?_,by simpa using VR.slice (n:=n) (off:=0) g1 hoc,g2⟩
      have hle' : ¬(n * i.size > 2 ^ 24):=by omega
      by_cases h00:n * i.size=0
      ·simp[Instr.buildSlice,zac hu,zaC (show (P.info? elem).isSome=true by grind),Program.cellsOf,hi,h00,newRow] at f1 ⊢
       simp_all
      ·simp[Instr.buildSlice,zac hu,zaC (show (P.info? elem).isSome=true by grind),Program.cellsOf,hi,h00,hle',newRow,zdr hi hz'] at f1 ⊢
       simp_all
     grind
    grind
   grind
  grind
end
end Go.Am
