/-
  Texts of this proof, part 13. No condition.
-/
import Derived.Test.YtmnbboleclchcaaGreatFAm8a
set_option linter.unusedVariables false
set_option linter.unusedSimpArgs false
namespace Go.Am
section
variable {P:Program} {K:Xs}
theorem baT {a b:ByteArray} (q:a=b):(a == b)=true:=by
 subst q
 cases a with
 | mk a=>
   show (a == a)=true
   simp
theorem baF {a b:ByteArray} (q:¬a=b):(a == b)=false:=by grind[zxp]
theorem ztP {op:BinOp} {t:TypeId} {kd:IntKind} {i j:Int} {k:Value->Prop} (w:zzr P op t kd i j k):∃v,zgK op kd i j=some v/\k v:=by
 unfold zzr at w
 split at w
 ·exact⟨_,rfl,w _ rfl⟩
 ·exact⟨_,rfl,w _ rfl⟩
 ·exact⟨_,rfl,w _ rfl⟩
 ·grind[zgK]
 ·exact⟨_,by grind[zgK],w.2 _ rfl⟩
 all_goals grind[zgK]
theorem zrb {op:BinOp} {t:TypeId} {x y:Value} {α:Type} {p:Option α} {k:Value->Prop}
 (w:match op with | .eql=>zti p (k (.bool true)) (k (.bool false)) | .neq=>zti p (k (.bool false)) (k (.bool true)) | _=>False)
 (ha:∀op,(op=.eql\/op=.neq)->zfV P op t x y=match op with | .eql=>(aEq P t x y).map .bool | .neq=>(aEq P t x y).map λb=>.bool (!b) | _=>none)
 (he:aEq P t x y=some p.isNone):∃v,zfV P op t x y=some v/\k v:=by
 split at w
 ·rw[ha _ (.inl rfl),he]
  cases p <;> exact⟨_,rfl,w⟩
 ·rw[ha _ (.inr rfl),he]
  cases p <;> exact⟨_,rfl,w⟩
 grind
theorem ztQ {op:BinOp} {t:TypeId} {x y:Value} {k:Value->Prop} (w:zzs P op t x y k):∃v,zfV P op t x y=some v/\k v:=by
 unfold zzs at w
 split at w
 ·grind[ztP,zfV]
 ·rename_i a
  split at w
  ·rename_i b
   split at w
   ·by_cases q:a=b
    all_goals grind[zfV,zvD,baT,baF]
   ·by_cases q:a=b
    all_goals grind[zfV,zvD,baT,baF]
   all_goals grind[zfV,zvD]
  grind
 ·grind[zfV,aEq]
 ·split at w
  ·split at w
   ·obtain⟨la,lb,h1,h2,h3,h4⟩:=w
    cases q:litsEq la lb<;>grind[zfV,aEq]
   ·obtain⟨la,lb,h1,h2,h3,h4⟩:=w
    cases q:litsEq la lb<;>grind[zfV,aEq]
   grind
  grind
 ·rename_i p
  split at w
  ·rename_i u ht
   refine zrb w (λop ho=>by rfl) ?_
   cases p <;> simp only[aEq,ht] <;> rfl
  grind
 ·rename_i p n c
  split at w
  ·rename_i u ht
   split at w
   ·cases p with
    | none=>exact⟨_,by simp only[zfV,aEq,ht]; rfl,w⟩
    | some a=>
      obtain⟨hn,w⟩:=w
      obtain⟨m,hm⟩:∃m,n+c=m+1:=⟨n+c - 1,by omega⟩
      exact⟨_,by simp only[zfV,aEq,ht,hm]; rfl,w⟩
   grind
  grind
 ·split at w
  ·refine zrb w (λop ho=>by rfl) ?_
   grind[aEq]
  grind
 grind
theorem zcl {o:Oper} {a:Env} {h h' : AH} {v:Value} {k:Value->AH->Prop} (hc:zfp o.op=false) (ha:aOp P o a h=some (v,h')) (hk:k v h'):Wo P K o a h k:=(by grind[zkn])
theorem zrc {g:FuncId} {k:Value->AH->Prop} {v:Value} {h:AH} (w:zzt P g k v h):k v h:=by
 unfold zzt at w
 cases hf:P.funcs[g]? with
 | none=>grind
 | some fn=>
   rw[hf] at w
   simp only at w
   cases ht:fn.resultTypes.toList with
   | nil=>simp_all
   | cons t ts=>
     rw[ht] at w
     cases ts with
     | nil=>
       obtain⟨x,hx,hk⟩:=zcM w
       grind
     | cons t2 ts=>
       obtain⟨x,hx,hk⟩:=zlR w
       grind
theorem ztR {d:Option Tmp} {f:Operand} {args:Array Operand} {ats:Array TypeId} {t:TypeId} {p:String} {af:Array Edge} {gd:Option (Nat×Bool)} {e:Env} {h:AH} {Q:Value->AH->Prop} {l:Nat} {first cap:Array Value} (hf:ev e f=.func (.yield l) first cap):
 Wo P K ⟨d,.call ⟨.value f,args,ats⟩,t,p,af,gd⟩ e h Q↔Wy P K l (first.toList ++ args.toList.map (ev e)) h Q:=by grind[Wo,Wy,runOp,zcs]
theorem zdc {o:Oper} {a:Env} {h:AH} {k:Value->AH->Prop} (hc:zfp o.op=false) (w:zh4 P o a h k):Wo P K o a h k:=by grind[zh4,zcl]
theorem znn {s d:TypeId} {x:Value} {h:AH} {k:Value->AH->Prop} (w:zks P s d x h k):∃v h',zav P h s d x=some (v,h')/\k v h':=by
 unfold zks at w
 split at w
 ·rename_i hs hd
  split at w
  ·exact⟨_,_,by simp only[zav,hs,hd],w _ rfl⟩
  grind
 ·rename_i hs hd
  split at w
  ·exact⟨_,_,by simp only[zav,hs,hd],w⟩
  grind
 all_goals grind
theorem zrd {t:TypeId} {x:Value} {lo hi mx:Option Value} {h:AH} {k:Value->AH->Prop} (w:zq5 P t x lo hi mx h k):∃v,zay P h t x lo hi mx=some v/\k v h:=by grind[zq5]
theorem zkw {t:TypeId} {x i:Value} {k:Value->Prop} (w:zf0 P t x i k):∃v,za9 P t x i=some v/\k v:=by
 unfold zf0 at w
 split at w
 ·split at w
  ·rename_i n elem ht
   split at w
   ·obtain⟨b,off,rfl,w⟩:=zbo w
    split at w
    ·exact⟨_,by simp only[za9,ht]; grind,w.2.2⟩
    grind
   grind
  ·rename_i elem ht
   split at w
   ·obtain⟨b,off,rfl,w⟩:=zbo w
    split at w
    ·exact⟨_,by simp only[za9,ht]; grind,w.2.2⟩
    grind
   grind
  grind
 grind
theorem zre {t:TypeId} {x i:Value} {k:Value->Prop} (w:zq6 P t x i k):∃v,zdG P t x i=some v/\k v:=by
 unfold zq6 at w
 split at w
 ·split at w
  ·rename_i n elem ht
   split at w
   ·split at w
    ·obtain⟨w1,w2,w3⟩:=w
     obtain⟨v,hv,hk⟩:=zjJ w3
     exact⟨v,by simp only[zdG,ht]; grind,hk⟩
    grind
   grind
  ·rename_i ht
   split at w
   ·obtain⟨h0,c,hc,hk⟩:=w
    exact⟨_,by simp only[zdG,ht]; grind,hk⟩
   grind
  grind
 grind
theorem zpM {t:TypeId} {m key:Value} {ok:Bool} {h:AH} {k:Value->Prop} (w:znh P t m key ok h k):∃v,zcr P h t m key ok=some v/\k v:=by
 unfold znh at w
 split at w
 ·split at w
  ·obtain⟨v,b,h1,h2⟩:=zcM w; grind
  ·obtain⟨v,h1,h2⟩:=zcM w; grind
 grind
theorem ztS {t:TypeId} {l c:Value} {h:AH} {k:Value->AH->Prop} (w:zv0 P t l c h k):∃v h',zaX P h t l c=some (v,h')/\k v h':=by
 unfold zv0 at w
 split at w
 ·rename_i ht
  split at w
  ·rename_i hi hz
   split at w
   ·obtain⟨⟨w1,w2,w3,w4⟩,w5⟩:=w
    exact⟨_,_,by simp only[zaX,ht,hi,hz]; grind[Qb],w5 _ rfl⟩
   grind
  grind
 grind
theorem zno {b:Builtin} {ats:Array TypeId} {args:List Value} {h:AH} {k:Value->AH->Prop} (w:zkt P b ats args h k):∃v h',zak P h b ats args=some (v,h')/\k v h':=by
 unfold zkt at w
 split at w
 ·grind
 ·grind
 ·grind
 ·grind
 ·split at w
  ·rename_i hm
   exact⟨_,_,by simp only[zak,hm]; rfl,w _ rfl⟩
  grind
 ·split at w
  ·rename_i hm
   exact⟨_,_,by simp only[zak,hm]; rfl,w _ rfl⟩
  grind
 ·split at w
  ·obtain⟨n,h1,h2⟩:=w
   exact⟨_,_,by unfold zak; grind,h2⟩
  ·split at w
   ·exact⟨_,_,by unfold zak; grind,w⟩
   grind
  grind
 ·split at w
  ·obtain⟨n,h1,h2⟩:=w
   exact⟨_,_,by unfold zak; grind,h2⟩
  grind
 grind
theorem zrf {o:Oper} {a:Env} {h:AH} {k:Value->AH->Prop} (w:zpL P K o a h k):Wo P K o a h k:=by
 obtain⟨d,op,t0,p0,af,gd⟩:=o
 cases op with
 | load t x=>
   simp only[zpL] at w
   split at w
   ·rename_i p hx
    obtain⟨b,off,rfl,w2⟩:=zbo w
    obtain⟨v,hv,hk⟩:=zcM w2
    exact zcl rfl (by simp only[aOp,hx,zkv hv]; rfl) hk
   grind
 | store t x y=>
   simp only[zpL] at w
   split at w
   ·obtain⟨b,off,rfl,w2⟩:=zbo w
    obtain⟨h',hs,hk⟩:=zlS w2
    exact zcl rfl (by grind[aOp]) hk
   grind
 | binOp op t x y u=>
   obtain⟨v,hv,hk⟩:=ztQ (k:=λv=>k v h) w
   exact zcl rfl (by grind[aOp]) hk
 | alloc t=>
   simp only[zpL] at w
   cases hb:Nat.blt 200 (P.cellsOf t) with
   | true=>
     rw[hb] at w
     obtain⟨z,hz,hk⟩:=w
     exact zcl (v:=ptr h.next 0) (h':=h.alloc (.cells z t false)) rfl (by simp only[aOp,hz]; rfl) (hk _ rfl)
   | false=>
     rw[hb] at w
     exact zdc rfl w
 | fieldAddr s x f=>
   simp only[zpL] at w
   split at w
   ·obtain⟨b,off,rfl,w2⟩:=zbo w
    split at w2
    ·exact zcl rfl (by grind[aOp,ptr]) w2
    grind
   grind
 | pick c x y=>
   simp only[zpL] at w
   split at w
   ·rename_i b hb
    cases b with
    | true=>exact zcl rfl (by grind[aOp]) w
    | false=>exact zcl rfl (by grind[aOp]) w
   grind
 | unOp op t x=>
   simp only[zpL,vUn] at w
   split at w
   ·obtain⟨c,hc,hk⟩:=w
    exact zcl rfl (by grind[aOp]) hk
   ·split at w
    ·exact zcl rfl (by grind[aOp]) w
    grind
 | nilCheck x=>
   simp only[zpL] at w
   split at w
   ·rename_i p hx
    obtain⟨b,off,rfl,w2⟩:=zbo w
    exact zcl rfl (by simp only[aOp,hx]; rfl) w2
   ·exact zdc rfl w
 | build t parts=>
   rcases znl w with w | w
   ·obtain⟨vs,hv,hk⟩:=w
    exact zcl rfl (by grind[aOp]) hk
   ·exact zdc rfl w
 | buildSlice t n parts=>
   simp only[zpL] at w
   split at w
   ·rcases znl w with w | w
    ·obtain⟨p,m,c,h',hv,hk⟩:=w
     exact zcl rfl (by grind[aOp]) hk
    ·exact zdc rfl w
   grind
 | indexAddr t x i=>
   obtain⟨v,hv,hk⟩:=zkw (k:=λv=>k v h) w
   exact zcl rfl (by grind[aOp]) hk
 | slice t x lo hi mx=>
   obtain⟨v,hv,hk⟩:=zrd (k:=k) w
   exact zcl rfl (by grind[aOp]) hk
 | field t x f=>
   simp only[zpL] at w
   split at w
   ·rename_i fs ht
    split at w
    ·rename_i cs hx
     split at w
     ·rename_i fd hf
      have key:∃v,aPart P fd.type cs fd.offset=some v/\k v h:=by grind[zjJ,znm]
      obtain⟨v,hv,hk⟩:=key
      exact zcl rfl (by simp only[aOp,zeA,ht,hx,hf,hv]; rfl) hk
     grind
    grind
   grind
 | index t x i=>
   obtain⟨v,hv,hk⟩:=zre (k:=λv=>k v h) w
   exact zcl rfl (by grind[aOp]) hk
 | lookup t m key ok=>
   obtain⟨v,hv,hk⟩:=zpM (k:=λv=>k v h) w
   exact zcl rfl (by grind[aOp]) hk
 | mapUpdate t m key v=>
   obtain⟨h',hv,hk⟩:=w
   exact zcl rfl (by grind[aOp]) hk
 | convert s d x=>
   obtain⟨v,h',hv,hk⟩:=znn (k:=k) w
   exact zcl rfl (by grind[aOp]) hk
 | makeSlice t l c=>
   obtain⟨v,h',hv,hk⟩:=ztS (k:=k) w
   exact zcl rfl (by grind[aOp]) hk
 | next it s=>
   cases s with
   | false=>exact zdc rfl w
   | true=>
     simp only[zpL,zxu] at w
     split at w
     ·obtain⟨b,off,rfl,rfl,s,pos,hg,w1,w2⟩:=zbo w
      by_cases q:pos < s.size
      ·exact zcl rfl (by grind[aOp]) (w1 q _ rfl)
      ·exact zcl rfl (by grind[aOp]) (w2 q)
     grind
 | call c=>
   obtain⟨callee,args,ats⟩:=c
   cases callee with
   | value f=>
     simp only[zpL,zxv] at w
     split at w
     ·rename_i hf
      exact (zqX hf).2 (by grind[Wf.mono,zrc])
     ·rename_i hf
      refine (ztR hf).2 ?_
      obtain⟨n,v,h',h1,b,rfl,h3⟩:=w
      exact⟨n,_,h',h1,h3⟩
     grind
   | builtin b=>
     obtain⟨v,h',hv,hk⟩:=zno (k:=k) w
     exact zcl rfl (by grind[aOp]) hk
   | _=>exact w.elim
 | _=>exact zdc rfl w
theorem zkx {a e:Env} (ha:agr a e) {x:Operand} (hk:zlP a x=true):ev a x=ev e x:=by
 cases x with
 | tmp t=>
   simp only[zlP] at hk
   split at hk
   ·rename_i v hv
    rw[zdH,zdH,hv,ha t v hv]
   grind
 | _=>rfl
theorem zlT {a e:Env} (ha:agr a e) {o:Op} (hk:zkr a o=true):∀x∈o.operands,ev a x=ev e x:=by grind[zkr,zkx]
theorem zu1 {o:Oper} {a e:Env} {h:AH} {k:Value->AH->Prop} (ha:agr a e) (w:vOp P K o a h k):Wo P K o e h k:=by
 unfold vOp at w
 split at w
 ·obtain⟨n,v,h',h1,h2⟩:=zrf w
  exact⟨n,v,h',by grind[zdu,zlT],h2⟩
 grind
end
section
variable {P:Program} {K:Xs}
theorem Wo.mono {o:Oper} {e:Env} {h:AH} {Q Q' : Value->AH->Prop} (w:Wo P K o e h Q) (hq:∀v h',Q v h'->Q' v h'):Wo P K o e h Q':=by
 obtain⟨n,v,h',h1,h2⟩:=w
 exact⟨n,v,h',h1,hq _ _ h2⟩
theorem Wl.mono {ops:Array Oper} {os:List Nat} {e:Env} {h:AH} {Q Q' : List (Env×AH)->Prop} (w:Wl P K ops os e h Q) (hq:∀l,Q l->Q' l):Wl P K ops os e h Q':=by
 obtain⟨n,l,h1,h2⟩:=w
 exact⟨n,l,h1,hq _ h2⟩
theorem znp {ops:Array Oper} {o:Oper} {a e:Env} {A B:Prop} (ha:agr a e) (w:vG ops o a A B):(zaI ops o e=some true/\A)\/(zaI ops o e=some false/\B):=by
 unfold vG at w
 unfold zaI
 cases hg:o.guard with
 | none=>grind
 | some jw=>
   obtain⟨j,q⟩:=jw
   rw[hg] at w
   simp only at w ⊢
   cases hd:(ops[j]?).bind (·.dst) with
   | none=>grind
   | some d=>
     rw[hd] at w
     simp only at w ⊢
     cases hv:a.get d with
     | none=>grind
     | some v=>
       rw[hv] at w
       cases v with
       | bool b=>
         rw[ha _ _ hv]
         grind
       | tuple vs=>
         rw[ha _ _ hv]
         grind
       | _=>exact w.elim
theorem zh6 {a e:Env} (ha:agr a e) (d:Option Tmp) (v:Value):agr (putO a d v) (putO e d v):=by
 cases d with
 | none=>exact ha
 | some d=>
   intro t u ht
   simp only[zdT,Tr.get_set] at ht ⊢
   split at ht
   ·grind
   ·rename_i q; rw[if_neg q]; exact ha _ _ ht
theorem zv5 {a e:Env} (ha:agr a e) (d:Tmp) (v:Value):agr (a.set d v) (e.set d v):=zh6 ha (some d) v
theorem zf2 {ops:Array Oper}:∀{os:List Oper} {a e:Env} {h:AH} {k:Env->AH->Prop},agr a e->zy7 P K ops os a h k->Ws P K ops os e h λe' h'=>∃a',agr a' e'/\k a' h'
 | [],a,e,h,k,ha,w=>zqV.2 ⟨a,ha,w⟩
 | o :: os,a,e,h,k,ha,w=>by
   rcases znp ha w with ⟨hw,w⟩ | ⟨hw,w⟩
   ·exact (zxr hw).2 ((zu1 ha w).mono λv h' hq=>zf2 (zh6 ha _ _) hq)
   ·exact (zqW hw).2 (zf2 (zh6 ha _ _) w)
def RL:List (Env×AH)->List (Env×AH)->Prop
 | [],[]=>True
 | x :: xs,y :: ys=>(agr x.1 y.1/\x.2=y.2)/\RL xs ys
 | _,_=>False
theorem zlU:∀{la l:List (Env×AH)},RL la l->∀(i:Nat) (a:Env) (h:AH),la[i]?= some (a,h)->∃e:Env,l[i]?= some (e,h)/\agr a e
 | [],[],_,i,a,h,hi=>by grind
 | x :: xs,y :: ys,⟨⟨h1,h2⟩,h3⟩,i,a,h,hi=>by
   cases i with
   | zero=>grind
   | succ i=>
     exact zlU h3 i a h hi
 | [],_ :: _,w,_,_,_,_=>w.elim
 | _ :: _,[],w,_,_,_,_=>w.elim
theorem zu2:∀{la l:List (Env×AH)},RL la l->la.length=l.length
 | [],[],_=>rfl
 | x :: xs,y :: ys,⟨_,h3⟩=>by simp only[QF,zu2 h3]
 | [],_ :: _,w=>w.elim
 | _ :: _,[],w=>w.elim
theorem zv6 {la l:List (Env×AH)} (r:RL la l) {a:Env} {h:AH} (hl:la.getLast?= some (a,h)):∃e,l.getLast?= some (e,h)/\agr a e:=by grind[zu2,zlU]
theorem zky {ops:Array Oper}:∀{js:List Nat} {a e:Env} {h:AH} {k:List (Env×AH)->Prop},agr a e->vL P K ops js a h k->Wl P K ops js e h λl=>∃la,RL la l/\k la
 | [],a,e,h,k,ha,w=>by
   rw[zu0]
   exact⟨[(a,h)],⟨⟨ha,rfl⟩,trivial⟩,w⟩
 | j :: js,a,e,h0,k,ha,w=>by
   rw[zng]
   unfold vL at w
   cases ho:ops[j]? with
   | none=>grind
   | some o=>
     rw[ho] at w
     rw[zou,zvW]
     rcases znp ha w with ⟨hw,w⟩ | ⟨hw,w⟩
     ·rw[hw]
      refine (zu1 ha w).mono λv h' hq=>?_
      refine (zky (zh6 ha _ _) hq).mono λl hl=>?_
      obtain⟨la,r,hk⟩:=hl
      exact⟨(a,h0) :: la,⟨⟨ha,rfl⟩,r⟩,hk⟩
     ·rw[hw]
      refine (zky (zh6 ha _ _) w).mono λl hl=>?_
      obtain⟨la,r,hk⟩:=hl
      exact⟨(a,h0) :: la,⟨⟨ha,rfl⟩,r⟩,hk⟩
theorem zhl {v:Value} (hs:zbi v=true):eqS v v=true:=by
 cases v <;> first | (simp[zbi] at hs; done) | simp[eqS]
 grind[baT]
theorem zh7:∀{vs:List Value} {X:Prop},zlQ vs X->eqL vs vs=true/\X
 | [],X,w=>⟨rfl,w⟩
 | v :: vs,X,w=>by
   unfold zlQ at w
   split at w
   ·obtain⟨h1,h2⟩:=zh7 w
    grind[eqL,zhl]
   grind
theorem zpN {v:Value} {X:Prop} (w:zv1 v X):eqV v v=true/\X:=by cases v<;>grind[zh7,zv1,eqV,zhl]
theorem zrg {o:Oper} {a e:Env} {h:AH} {v:Value} (ha:agr a e) (w:zzv P o a h v):∃h',aOp P o e h=some (v,h'):=by
 unfold zzv at w
 split at w
 ·rename_i hk
  rw[<-zlw h (zlT ha hk)]
  split at w
  ·rename_i t x ho
   split at w
   ·rename_i p hx
    obtain⟨b,off,rfl,w2⟩:=zbo w
    obtain⟨d,op,t0,p0,af,gd⟩:=o
    subst ho
    exact⟨h,by simp only[aOp,hx,zkv w2]; rfl⟩
   grind
  ·exact⟨h,by grind[aOp]⟩
  ·exact⟨h,by grind[aOp]⟩
  ·grind[aOp]
  ·rename_i c ho
   split at w
   ·obtain⟨callee,args,ats⟩:=c
    grind[aOp]
   grind
  grind
 grind
theorem zrh {ops:Array Oper} {ord:List Nat} {la l:List (Env×AH)} (r:RL la l) {p q:Nat} {X:Prop} (w:rr P ops ord la p q X):za6 P ops ord l p q=true/\X:=by
 unfold rr at w
 split at w
 ·rename_i o a h0 a1 h1 a2 h ho hp hp1 hq
  obtain⟨e,he,ha⟩:=zlU r _ _ _ hp
  obtain⟨e1,he1,ha1⟩:=zlU r _ _ _ hp1
  obtain⟨e2,he2,_⟩:=zlU r _ _ _ hq
  unfold za6
  rw[ho,he,he1,he2]
  simp only
  rcases znp ha w with ⟨hw,w⟩ | ⟨hw,w⟩
  ·rw[hw]
   split at w
   ·rename_i d hd
    split at w
    ·rename_i v hv
     obtain⟨hs,hr,hX⟩:=zpN w
     obtain⟨h',hop⟩:=zrg ha hr
     rw[hd,hop]
     refine⟨?_,hX⟩
     simp only[zdH,ha1 _ _ hv,QV]
     omega
    grind
   grind
  grind
 grind
theorem zoz {ops:Array Oper} {ord:List Nat} {la l:List (Env×AH)} (r:RL la l) {X:Prop}:∀{ps:List (Nat×Nat)},rrs P ops ord la X ps->ps.all (λp=>za6 P ops ord l p.1 p.2 && za6 P ops ord l p.1 (p.2+1))=true/\X
 | [],w=>⟨rfl,w⟩
 | (p,q) :: ps,w=>by
   obtain⟨h1,w⟩:=zrh r w
   obtain⟨h2,w⟩:=zrh r w
   obtain⟨h3,hX⟩:=zoz r w
   grind
theorem znq {ops:Array Oper} {a e:Env} {h:AH} {k:Env->AH->Prop} (ha:agr a e) (w:zv2 P K ops a h k):Wd P K ops e h λe' h'=>∃a',agr a' e'/\k a' h':=by
 unfold zv2 at w
 split at w
 ·rename_i ord ps hp
  rw[zq0 hp]
  refine (zky ha w).mono λl hl=>?_
  grind[zoz,zv6]
 grind
theorem zdU:∀{l:zqq} {I:LT l} {a e:Env} {n:Nat} {h:AH},agr a e->zku l I a n h->zku l I e n h
 | [],I,a,e,n,h,ha,w=>w
 | (t,z) :: r,I,a,e,n,h,ha,w=>by
   cases z <;> simp only[zku] at w ⊢ <;> first
    | exact w
    | (split at w
       ·rename_i hv
        rw[ha _ _ hv]
        first
         | exact zdU ha w
         | (try simp only at w ⊢
            split at w
            ·first | exact zdU ha w | (rw[hd]; exact zdU ha w)
            omega)
       grind)
theorem zcp {a e:Env} (ha:agr a e) {t:Tmp} {v:Value} (hv:e.get t=some v):agr (a.set t v) e:=by
 intro u x hx
 rw[Tr.get_set] at hx
 split at hx
 ·grind
 ·exact ha _ _ hx
theorem zcw:∀{l:zqq} {I:LT l} {a e:Env} {n:Nat} {h:AH} {k:Env->Prop},agr a e->zov l I a n h k->zku l I e n h->∃a',agr a' e/\k a'
 | [],I,a,e,n,h,k,ha,w,hi=>⟨a,ha,w hi⟩
 | (t,z) :: r,I,a,e,n,h,k,ha,w,hi=>by
   cases z with
   | bool x=>
     cases x with
     | true=>
       simp only[zku] at hi
       split at hi
       ·rename_i y hv
        cases y with
        | true=>exact zcw (zcp ha hv) w.1 hi
        | false=>exact zcw (zcp ha hv) w.2 hi
       grind
     | false=>
       simp only[zku] at hi
       split at hi
       ·rename_i y hv
        exact zcw (zcp ha hv) (w y) hi
       grind
   | _=>
   simp only[zku] at hi <;> simp only[zov] at w <;> first
    | exact hi.elim
    | (split at hi
       ·rename_i hv
        first
         | exact zcw (zcp ha hv) (w _) hi
         | exact zcw (zcp ha hv) (w _ _ _) hi
         | (split at hi
            ·rename_i hd
             have hd:=of_decide_eq_true hd
             subst hd
             exact zcw (zcp ha hv) (w _) hi
            grind)
       grind)
theorem zf3:∀{ts:List Tmp} {a:Env} {t:Tmp} {v:Value},(zow a ts).get t=some v->t∉ts/\a.get t=some v
 | [],a,t,v,h=>⟨by simp,h⟩
 | u :: ts,a,t,v,h=>by
   obtain⟨h1,h2⟩:=zf3 (ts:=ts) h
   grind[Tr.get_del]
def zu3 (z v:Value):Prop:=∀k:Value->Prop,(match z with
 | .int kd _=>∀x:Int,k (.int kd x)
 | .bool _=>∀x:Bool,k (.bool x)
 | .string _=>∀x:ByteArray,k (.string x)
 | .pointer _=>∀p:Option Addr,k (.pointer p)
 | .slice _ _ _=>∀(p:Option Addr) (n c:Nat),k (.slice p n c)
 | .map _=>∀m:Option Nat,k (.map m)
 | .nilFunc=>∀v:Value,k v
 | _=>∀v:Value,k v)->k v
def zkz:List Value->List Value->Prop
 | [],[]=>True
 | z :: zs,v :: vs=>zu3 z v/\zkz zs vs
 | _,_=>False
theorem ztT {z:Value} {k:Value->Prop} (w:exV z k):∃v,zu3 z v/\k v:=by
 unfold exV at w
 split at w
 ·obtain⟨x,w⟩:=w; exact⟨_,λk q=>q x,w⟩
 ·obtain⟨x,w⟩:=w; exact⟨_,λk q=>q x,w⟩
 ·obtain⟨x,w⟩:=w; exact⟨_,λk q=>q x,w⟩
 ·obtain⟨x,w⟩:=w; exact⟨_,λk q=>q x,w⟩
 ·obtain⟨x,y,z,w⟩:=w; exact⟨_,λk q=>q x y z,w⟩
 ·obtain⟨x,w⟩:=w; exact⟨_,λk q=>q x,w⟩
 ·obtain⟨x,y,w⟩:=w; exact⟨_,λk q=>q _,w⟩
 ·obtain⟨x,w⟩:=w
  refine⟨x,λk q=>?_,w⟩
  grind
theorem zoA:∀{zs:List Value} {k:List Value->Prop},exL zs k->∃vs,zkz zs vs/\k vs
 | [],k,w=>⟨[],trivial,w⟩
 | z :: zs,k,w=>by
   obtain⟨v,h1,w⟩:=ztT w
   obtain⟨vs,h2,w⟩:=zoA w
   exact⟨v :: vs,⟨h1,h2⟩,w⟩
theorem zlV:∀{pl:zqq} {a e:Env} {k:List Value->Env->Prop} {vs:List Value},agr a e->zqr pl a k->zkz (pl.map (·.2)) vs->∃a',agr a' (putAll e (pl.map (·.1)) vs)/\k vs a'
 | [],a,e,k,vs,ha,w,hk=>by
   cases vs with
   | nil=>exact⟨a,ha,w⟩
   | cons _ _=>exact hk.elim
 | (t,z) :: r,a,e,k,vs,ha,w,hk=>by
   cases vs with
   | nil=>exact hk.elim
   | cons v vs=>
     obtain⟨h1,h2⟩:=hk
     have key:zqr r (a.set t v) λws a'=>k (v :: ws) a':=by
      refine h1 (λv=>zqr r (a.set t v) λws a'=>k (v :: ws) a') ?_
      grind[zqr]
     exact zlV (pl:=r) (zv5 ha t v) key h2
theorem zlW:∀{zs vs:List Value},zkz zs vs->zs.length=vs.length
 | [],[],_=>rfl
 | _ :: _,_ :: _,w=>by simp only[QF,zlW w.2]
 | [],_ :: _,w=>w.elim
 | _ :: _,[],w=>w.elim
end
noncomputable section
section
variable {P:Program} {K:Xs} {hs:List (Nat×zqq)}
theorem zam (l:Nat) (h:AH) (o:zca):zaZ l h (h.set l o):=⟨rfl,by grind[AH.get_set]⟩
theorem zaf (l:Nat) (h:AH) (o:zca):(h.set l o).get l=some o:=by simp
def zAF (l:Nat) (L0:zqw) (h4:AH):AX->Option (Value×AH)
 | .normal=>some (.bool true,h4.set l (.loop L0))
 | .exit id=>some (.bool false,h4.set l (.loop { L0 with state:=.done,pending:=some (.exit id) }))
 | .ret=>some (.bool false,h4.set l (.loop { L0 with state:=.done,pending:=some .ret }))
theorem zlX {rd:Option Nat} {h:AH} {X:Prop} (w:zq8 rd h X):zfe rd h=true/\X:=by
 cases rd with
 | none=>exact⟨rfl,w⟩
 | some l=>
   obtain⟨⟨L,hL⟩,w⟩:=w
   grind[zfe]
theorem zv7 {x y:AX} (h:zxw x y=true):x=y:=by
 cases x <;> cases y <;> first | rfl | grind[zxw] | skip
 grind[zxw,Qb]
theorem zjK:∀{l:List AX} {k:AX->Prop} {rest:Prop},zv3 l k rest->(∀x,zeX x l=true->k x)/\rest
 | [],k,rest,w=>⟨by grind[zeX],w⟩
 | y :: ys,k,rest,w=>by
   obtain⟨h1,w⟩:=w
   obtain⟨h2,h3⟩:=zjK w
   grind[zeX,zv7]
theorem zlY {f:Operand} {ps:Array Tmp} {assign body:Code}
 (ihA:∀{rd:Option Nat} {a e:Env} {h:AH} {Q:AX->Env->AH->Prop},agr a e->vc P K hs rd assign a h Q->Wc P K rd assign e h λx e' h'=>∃a',agr a' e'/\Q x a' h')
 (ihB:∀{rd:Option Nat} {a e:Env} {h:AH} {Q:AX->Env->AH->Prop},agr a e->vc P K hs rd body a h Q->Wc P K rd body e h λx e' h'=>∃a',agr a' e'/\Q x a' h')
 {rd:Option Nat} {a e:Env} {h:AH} {Q:AX->Env->AH->Prop} (ha:agr a e) (w:vc P K hs rd (.rangeFunc f ps assign body) a h Q):
 Wc P K rd (.rangeFunc f ps assign body) e h λx e' h'=>∃a',agr a' e'/\Q x a' h':=by
 unfold vc at w
 obtain⟨har,w⟩:=zlX w
 split at w
 rotate_left
 ·grind
 rename_i hkn
 split at w
 rotate_left
 ·grind
 rename_i g first cap pl hf hpl
 obtain⟨J,D,N,item,G,B,⟨hK,hps⟩,hkind,hJ0,hJn,hDn,hJG,hDG,hG,hround,hiter,hend,hexit0⟩:=w
 obtain⟨hexit1,hexit2⟩:=zjK hexit0
 have hexit:∀x h1,x≠.normal->D x h1->Q x a (h1.del h.next):=by grind
 have hfe:ev e f=.func (.func g) first cap:=by grind[zkx]
 obtain⟨L0,hL0⟩:∃L0:zqw,L0={ state:=.ready,pending:=none,env:=e,params:=ps.toList,assign:=assign,body:=body,ks:=[] }:=⟨_,rfl⟩
 obtain⟨n,v,h2,hc,hq⟩:=hiter (λi h1=>J i h1/\h1.get h.next=some (.loop L0))
  (λh1=>∃x p,x≠.normal/\D x h1/\h1.get h.next=some (.loop { L0 with state:=.done,pending:=some p })/\((∃id,x=.exit id/\p=.exit id)\/(x=.ret/\p=.ret)))
  (λi h1 q=>q.1)
  (by grind)
  (by grind)
  (by
    intro i h1 hi ⟨hJ,hl⟩
    obtain⟨vs,hks,hvs⟩:=zoA (hkind i hi)
    obtain⟨a',ha',hr⟩:=zlV (vs:=vs) ha (hround i h1 hi hJ ⟨L0,hl⟩) hks
    have hr:=hr hvs
    obtain⟨n1,x1,e2,h2,r1,a2,ha2,rfl,hl2,hbody⟩:=ihA ha' hr
    have hl2' : h2.get h.next=some (.loop L0):=by grind
    obtain⟨n2,x2,e4,h4,r2,a4,ha4,hl4,hres,hB⟩:=ihB ha2 (hbody (h2.set h.next (.loop { L0 with state:=.busy })) (zam _ _ _) ⟨_,zaf _ _ _⟩)
    rw[zaf] at hl4
    have r1':=zfm (Nat.le_max_left n1 n2) _ _ _ _ _ _ r1
    have r2':=zfm (Nat.le_max_right n1 n2) _ _ _ _ _ _ r2
    have e1:L0.params=pl.map (·.1):=by grind
    have e2' : L0.env=e:=by grind
    have e3:L0.assign=assign:=by grind
    have e4' : L0.body=body:=by grind
    have e5:L0.state=.ready:=by grind
    have e6:L0.pending=none:=by grind
    have hlen:(item i).length=L0.params.length:=by
     have:=zlW hks
     grind
    have q1:ex P K (max n1 n2) (some h.next) [] L0.assign (putAll L0.env L0.params (item i)) h1=some (.normal,e2,h2):=by grind
    have q2:ex P K (max n1 n2) (some h.next) [] L0.body e2 (h2.set h.next (.loop { L0 with state:=.busy }))=some (x2,e4,h4):=by grind
    have hy:zc6 (ex P K (max n1 n2)) h.next (item i) h1=zAF h.next L0 h4 x2:=by
     unfold zc6
     simp only[hl]
     rw[if_pos hlen,q1]
     simp only[hl2']
     rw[if_pos e5,q2]
     grind[zAF]
    cases x2 with
    | normal=>exact⟨_,_,_,hy,by grind[zam,zaf],by grind[zam]⟩
    | exit id=>exact⟨_,_,_,hy,by grind[zam,zaf],by grind[zam]⟩
    | ret=>exact⟨_,_,_,hy,by grind[zam,zaf],by grind[zam]⟩)
  (h.alloc (.loop L0)) ⟨hJ0 _ rfl λc hc=>by grind[AH.get_alloc],by simp⟩
 have hcall:zbp P K (ex P K n) (ev e f) h.next (h.alloc (.loop L0))=some (v,h2):=by grind[zbp,zdQ]
 rw[zbO]
 have hst:zaK P K (ex P K n) rd [] (.rangeFunc f ps assign body) e h=zct P K (ex P K n) [] f ps.toList assign body e h:=by grind[zaK]
 grind[zct]
theorem ztU:∀{c:Code} {rd:Option Nat} {a e:Env} {h:AH} {Q:AX->Env->AH->Prop},agr a e->vc P K hs rd c a h Q->Wc P K rd c e h λx e' h'=>∃a',agr a' e'/\Q x a' h':=by
 intro c
 induction c with
 | skip=>intro rd a e h Q ha w; exact znc.2 ⟨a,ha,w⟩
 | label l=>intro rd a e h Q ha w; exact zkk.2 ⟨a,ha,w⟩
 | region id ops draw=>
   intro rd a e h Q ha w
   cases draw with
   | false=>exact zlI.2 (zf2 ha w)
   | true=>exact zqU.2 (znq ha w)
 | seq c d ihc ihd=>
   intro rd a e h Q ha w
   refine zuZ.2 ((ihc ha w).mono λx e' h' hq=>?_)
   obtain⟨a',ha',hq⟩:=hq
   cases x with
   | normal=>exact ihd ha' hq
   | exit i=>exact⟨a',ha',hq⟩
   | ret=>exact⟨a',ha',hq⟩
 | cond o x y ihx ihy=>grind[vc,zkx,zqS]
 | block id c ih=>
   intro rd a e h Q ha w
   refine zkl.2 ((ih ha w).mono λx e' h' hq=>?_)
   cases x<;>grind[zji]
 | loop c ih=>
   intro rd a e h Q ha w
   unfold vc at w
   split at w
   rotate_left
   ·grind
   rename_i l hl
   obtain⟨I,⟨n,hn⟩,hb⟩:=w
   refine zh2 (λn e1 h1=>agr (zow a (zni c)) e1/\zku l I e1 n h1) ?_ n e h ⟨λt v ht=>ha _ _ (zf3 ht).2,zdU ha hn⟩
   rintro k e1 h1 ⟨ha1,hi⟩
   obtain⟨a',ha',hv⟩:=zcw ha1 (hb k h1) hi
   refine (zv4 (ih ha' hv)).mono λx e2 h2 hq=>?_
   obtain⟨⟨a2,ha2,hq⟩,hm⟩:=hq
   cases x with
   | normal=>
     obtain⟨j,hj,hq⟩:=hq
     exact⟨j,hj,λt v ht=>by rw[hm t (zf3 ht).1]; exact ha1 t v ht,zdU ha2 hq⟩
   | exit i=>exact⟨a2,ha2,hq⟩
   | ret=>exact⟨a2,ha2,hq⟩
 | scope c ih=>intro rd a e h Q ha w; exact zkm.2 (ih ha w)
 | exit i=>intro rd a e h Q ha w; exact znd.2 ⟨a,ha,w⟩
 | ret=>intro rd a e h Q ha w; exact Wc_ret.2 ⟨a,ha,w⟩
 | rangeFunc f ps assign body ihA ihB=>grind[zlY]
 | goto l=>intro rd a e h Q ha w; exact w.elim
 | refuse s=>intro rd a e h Q ha w; exact w.elim
theorem zpO {a e:Env} {h:AH} {r:ResultVar} {k:Value->Prop} (ha:agr a e) (w:ztO P a h r k):∃v,zbW P e h r=some v/\k v:=by
 cases r with
 | tmp t=>
   simp only[ztO] at w
   split at w
   ·rename_i v hv
    exact⟨v,by simp only[zbW,zdH,ha _ _ hv,QV],w⟩
   grind
 | cell x t=>
   simp only[ztO] at w
   split at w
   ·rename_i p hp
    obtain⟨b,off,rfl,w2⟩:=zbo w
    obtain⟨v,hv,hk⟩:=zcM w2
    exact⟨v,by simp only[zbW,zdH,ha _ _ hp,QV]; grind[zkv],hk⟩
   grind
theorem zlZ {a e:Env} {h:AH} (ha:agr a e):∀{rs:List ResultVar} {k:List Value->Prop},zy8 P a h rs k->∃vs,rs.mapM (zbW P e h)=some vs/\k vs
 | [],k,w=>⟨[],rfl,w⟩
 | r :: rs,k,w=>by
   obtain⟨v,hv,w⟩:=zpO ha w
   obtain⟨vs,hvs,hk⟩:=zlZ ha w
   simp_all
theorem zaj {f:FuncId} {args:List Value} {h:AH} {Q:Value->AH->Prop} (hk:K f=none) (w:vcF P K hs f args h Q):Wf P K f args h Q:=by
 unfold vcF at w
 split at w
 rotate_left
 ·grind
 rename_i fn hf
 split at w
 rotate_left
 ·grind
 rename_i c hc
 refine (zot hk hf hc).2 ((ztU (λ_ _ q=>q) w).mono λx e' h' hq=>?_)
 obtain⟨a',ha',hq⟩:=hq
 have key:∀(q:zy8 P a' h' fn.results.toList λvs=>Q (one vs) h'),∃v,zb6 P e' h' fn.results.toList=some v/\Q v h':=by
  intro q
  obtain⟨vs,hvs,hq⟩:=zlZ ha' q
  refine⟨one vs,?_,hq⟩
  unfold zb6
  rw[hvs]
  cases vs with
  | nil=>rfl
  | cons v t=>cases t <;> rfl
 cases x<;>grind
end
end
end Go.Am
