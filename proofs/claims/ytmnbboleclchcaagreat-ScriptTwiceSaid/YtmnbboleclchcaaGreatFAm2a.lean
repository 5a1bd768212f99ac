/-
  Texts of this proof, part 2. No condition.
-/
import Derived.Test.YtmnbboleclchcaaGreatFAm1
import Derived.Laws.CopyRow
import Derived.Laws.Append
import Derived.Laws.StructEq
set_option linter.unusedSimpArgs false
set_option linter.unusedVariables false
namespace Go.Am
theorem zhE {α:Type} {b:Bool} {x:Option α} {y:α} (h:cond b none x=some y):b=false/\x=some y:=by grind
structure Rec where
 blk:Nat
 shift:Nat
 total:Nat
 esz:Nat
abbrev Fi:=Nat->Option Rec
inductive FR (φ:Fi):Fn->Fn->Prop
 | func (f:FuncId):FR φ (.func f) (.func f)
 | yield {l:Nat} {r:Rec} (h:φ l=some r):FR φ (.yield l) (.yield r.blk)
inductive VR (φ:Fi):Value->Value->Prop
 | junk (v:Value):VR φ (.tuple #[]) v
 | bool (b:Bool):VR φ (.bool b) (.bool b)
 | int (k:IntKind) (n:Int):VR φ (.int k n) (.int k n)
 | string (s:ByteArray):VR φ (.string s) (.string s)
 | ptrNil:VR φ (.pointer none) (.pointer none)
 | ptr {b off:Nat} {r:Rec} (h:φ b=some r):VR φ (.pointer (some ⟨b,off,none⟩)) (.pointer (some ⟨r.blk,r.shift+off,none⟩))
 | sliceNil (n c:Nat) (hc:c < zai):VR φ (.slice none n c) (.slice none n c)
 | slice {b off n c:Nat} {r:Rec} (h:φ b=some r) (hc:c < zai):VR φ (.slice (some ⟨b,off,none⟩) n c) (.slice (some ⟨r.blk,r.shift+off,none⟩) n c)
 | sliceO {b off n c:Nat} {r:Rec} (h:φ b=some r) (hc:c < zai) (hn:n<=c) (ht:r.shift+off+c * r.esz=r.total):VR φ (.slice (some ⟨b,off,none⟩) n zai) (.slice (some ⟨r.blk,r.shift+off,none⟩) n c)
 | sliceE {b off:Nat} {a:Addr} {r:Rec} (h:φ b=some r) (ha:a.block=r.blk\/r.total < r.shift):VR φ (.slice (some ⟨b,off,none⟩) 0 zai) (.slice (some a) 0 0)
 | sliceY (b off:Nat):VR φ (.slice (some ⟨b,off,none⟩) 0 0) (.slice none 0 0)
 | mapNil:VR φ (.map none) (.map none)
 | map {b:Nat} {r:Rec} (h:φ b=some r):VR φ (.map (some b)) (.map (some r.blk))
 | func {fn fn' : Fn} {xs xs' ys ys' : Array Value} (hf:FR φ fn fn') (h1:xs.size=xs'.size) (h2:ys.size=ys'.size)
    (h3:∀(i:Nat) (v v' : Value),xs[i]?= some v->xs'[i]?= some v'->VR φ v v') (h4:∀(i:Nat) (v v' : Value),ys[i]?= some v->ys'[i]?= some v'->VR φ v v'):VR φ (.func fn xs ys) (.func fn' xs' ys')
 | skip {xs:Array Value} (h:isSkip (.tuple xs)=true):VR φ (.tuple xs) undef
 | nilFunc:VR φ .nilFunc .nilFunc
 | nilIface:VR φ .nilIface .nilIface
 | iface {t:TypeId} {v v' : Value} (h:VR φ v v'):VR φ (.iface t v) (.iface t v')
 | agg {xs xs' : Array Value} (h1:xs.size=xs'.size) (h2:∀(i:Nat) (v:Value),xs[i]?= some v->zcq v=false)
    (h3:∀(i:Nat) (v v' : Value),xs[i]?= some v->xs'[i]?= some v'->VR φ v v'):VR φ (.agg xs) (.agg xs')
 | tuple {xs xs' : Array Value} (h1:xs.size=xs'.size) (h3:∀(i:Nat) (v v' : Value),xs[i]?= some v->xs'[i]?= some v'->VR φ v v'):VR φ (.tuple xs) (.tuple xs')
def Le (φ ψ:Fi):Prop:=∀b r,φ b=some r->ψ b=some r
theorem Le.refl (φ:Fi):Le φ φ:=λ_ _ h=>h
theorem Le.trans {φ ψ χ:Fi} (h:Le φ ψ) (k:Le ψ χ):Le φ χ:=λb r e=>k b r (h b r e)
theorem FR.mono {φ ψ:Fi} (h:Le φ ψ) {f f' : Fn} (r:FR φ f f'):FR ψ f f':=by
 cases r with
 | func f=>exact .func f
 | yield e=>exact .yield (h _ _ e)
theorem VR.mono {φ ψ:Fi} (h:Le φ ψ) {v v' : Value} (r:VR φ v v'):VR ψ v v':=by
 induction r with
 | junk v=>exact .junk v
 | bool b=>exact .bool b
 | int k n=>exact .int k n
 | string s=>exact .string s
 | ptrNil=>exact .ptrNil
 | ptr e=>exact .ptr (h _ _ e)
 | sliceNil n c hc=>exact .sliceNil n c hc
 | slice e hc=>exact .slice (h _ _ e) hc
 | sliceO e hc hn ht=>exact .sliceO (h _ _ e) hc hn ht
 | sliceE e ha=>exact .sliceE (h _ _ e) ha
 | sliceY b off=>exact .sliceY b off
 | mapNil=>exact .mapNil
 | map e=>exact .map (h _ _ e)
 | func hf h1 h2 _ _ i3 i4=>exact .func (hf.mono h) h1 h2 i3 i4
 | skip h=>exact .skip h
 | nilFunc=>exact .nilFunc
 | nilIface=>exact .nilIface
 | iface _ i=>exact .iface i
 | agg h1 h2 _ i3=>exact .agg h1 h2 i3
 | tuple h1 _ i3=>exact .tuple h1 i3
theorem VR.one {φ:Fi} {v v' : Value} (r:VR φ v v') (h:zcq v=false):v'.oneCell'= true:=by
 cases r <;> first | rfl | grind[zcq]
def LR (φ:Fi):List Value->List Value->Prop
 | [],[]=>True
 | x :: xs,y :: ys=>VR φ x y/\zcq x=false/\LR φ xs ys
 | _,_=>False
def AR (φ:Fi):List Value->List Value->Prop
 | [],[]=>True
 | x :: xs,y :: ys=>VR φ x y/\AR φ xs ys
 | _,_=>False
section
variable {φ ψ:Fi}
theorem LR.mono (h:Le φ ψ):∀{xs ys:List Value},LR φ xs ys->LR ψ xs ys
 | [],[],_=>trivial
 | _ :: _,_ :: _,r=>⟨r.1.mono h,r.2.1,LR.mono h r.2.2⟩
theorem LR.length:∀{xs ys:List Value},LR φ xs ys->xs.length=ys.length
 | [],[],_=>rfl
 | _ :: _,_ :: _,r=>by simp[LR.length r.2.2]
theorem AR.length:∀{xs ys:List Value},AR φ xs ys->xs.length=ys.length
 | [],[],_=>rfl
 | _ :: _,_ :: _,r=>by simp[AR.length r.2]
theorem LR.toAR:∀{xs ys:List Value},LR φ xs ys->AR φ xs ys
 | [],[],_=>trivial
 | _ :: _,_ :: _,r=>⟨r.1,LR.toAR r.2.2⟩
theorem LR.append:∀{xs ys us vs:List Value},LR φ xs ys->LR φ us vs->LR φ (xs ++ us) (ys ++ vs)
 | [],[],_,_,_,k=>k
 | _ :: _,_ :: _,_,_,r,k=>⟨r.1,r.2.1,LR.append r.2.2 k⟩
theorem AR.append:∀{xs ys us vs:List Value},AR φ xs ys->AR φ us vs->AR φ (xs ++ us) (ys ++ vs)
 | [],[],_,_,_,k=>k
 | _ :: _,_ :: _,_,_,r,k=>⟨r.1,AR.append r.2 k⟩
theorem LR.take:∀(n:Nat) {xs ys:List Value},LR φ xs ys->LR φ (xs.take n) (ys.take n)
 | 0,_,_,_=>by simp[LR]
 | _+1,[],[],_=>by grind
 | n+1,_ :: _,_ :: _,r=>⟨r.1,r.2.1,LR.take n r.2.2⟩
theorem LR.drop:∀(n:Nat) {xs ys:List Value},LR φ xs ys->LR φ (xs.drop n) (ys.drop n)
 | 0,_,_,r=>by grind
 | _+1,[],[],_=>by grind
 | n+1,_ :: _,_ :: _,r=>LR.drop n r.2.2
theorem LR.at:∀{xs ys:List Value},LR φ xs ys->∀(i:Nat) (v:Value),xs[i]?= some v->zcq v=false/\∃v',ys[i]?= some v'/\VR φ v v'
 | [],[],_,i,v,e=>by grind
 | _ :: _,y :: _,r,0,v,e=>by simp at e; subst e; exact⟨r.2.1,y,rfl,r.1⟩
 | _ :: _,_ :: _,r,i+1,v,e=>by simpa using LR.at r.2.2 i v e
theorem AR.at:∀{xs ys:List Value},AR φ xs ys->∀(i:Nat) (v:Value),xs[i]?= some v->∃v',ys[i]?= some v'/\VR φ v v'
 | [],[],_,i,v,e=>by grind
 | _ :: _,y :: _,r,0,v,e=>by simp at e; subst e; exact⟨y,rfl,r.1⟩
 | _ :: _,_ :: _,r,i+1,v,e=>by simpa using AR.at r.2 i v e
theorem LR.one:∀{xs ys:List Value},LR φ xs ys->∀v∈ys,v.oneCell'= true
 | [],[],_,v,h=>by grind
 | _ :: _,_ :: _,r,v,h=>by
   rcases Qy.1 h with h | h
   ·subst h; exact r.1.one r.2.1
   ·exact LR.one r.2.2 v h
theorem LR.of_at:∀{xs ys:List Value},xs.length=ys.length->(∀(i:Nat) (v:Value),xs[i]?= some v->zcq v=false)->(∀(i:Nat) (v v' : Value),xs[i]?= some v->ys[i]?= some v'->VR φ v v')->LR φ xs ys
 | [],[],_,_,_=>trivial
 | [],_ :: _,h,_,_=>by grind
 | _ :: _,[],h,_,_=>by grind
 | x :: xs,y :: ys,h,h2,h3=>⟨h3 0 x y rfl rfl,h2 0 x rfl,LR.of_at (by grind) (λi v e=>h2 (i+1) v (by grind)) (λi v v' e e'=>h3 (i+1) v v' (by grind) (by grind))⟩
theorem AR.of_at:∀{xs ys:List Value},xs.length=ys.length->(∀(i:Nat) (v v' : Value),xs[i]?= some v->ys[i]?= some v'->VR φ v v')->AR φ xs ys
 | [],[],_,_=>trivial
 | [],_ :: _,h,_=>by grind
 | _ :: _,[],h,_=>by grind
 | x :: xs,y :: ys,h,h3=>⟨h3 0 x y rfl rfl,AR.of_at (by grind) (λi v v' e e'=>h3 (i+1) v v' (by grind) (by grind))⟩
theorem AR.two:∀{xs ys:List Value},AR φ xs ys->∀(i:Nat) (v v' : Value),xs[i]?= some v->ys[i]?= some v'->VR φ v v':=by
 intro xs ys h i v v' e e'
 obtain⟨u,hu,hr⟩:=h.at i v e
 grind
theorem AR.func {fn fn' : Fn} {xs xs' ys ys' : Array Value} (hf:FR φ fn fn') (h:AR φ xs.toList xs'.toList) (k:AR φ ys.toList ys'.toList):VR φ (.func fn xs ys) (.func fn' xs' ys'):=
 .func hf (by simpa using h.length) (by simpa using k.length) (λi v v' e e'=>h.two i v v' (by grind) (by grind)) (λi v v' e e'=>k.two i v v' (by grind) (by grind))
theorem AR.tuple {xs xs' : Array Value} (h:AR φ xs.toList xs'.toList):VR φ (.tuple xs) (.tuple xs'):=
 .tuple (by simpa using h.length) (λi v v' e e'=>h.two i v v' (by grind) (by grind))
theorem LR.agg {xs xs' : Array Value} (h:LR φ xs.toList xs'.toList):VR φ (.agg xs) (.agg xs'):=
 .agg (by simpa using h.length) (λi v e=>(h.at i v (by grind)).1) (λi v v' e e'=>h.toAR.two i v v' (by grind) (by grind))
theorem VR.toLR {xs:Array Value} {v' : Value} (h:VR φ (.agg xs) v'):∃xs',v'= .agg xs'/\LR φ xs.toList xs'.toList:=by cases h<;>grind[LR.of_at]
theorem VR.tupleAR {xs:Array Value} {v' : Value} (h:VR φ (.tuple xs) v'):xs=#[]\/isSkip (.tuple xs)=true\/∃xs',v'= .tuple xs'/\AR φ xs.toList xs'.toList:=by cases h<;>grind[AR.of_at]
theorem VR.funcAR {fn:Fn} {xs ys:Array Value} {v' : Value} (h:VR φ (.func fn xs ys) v'):∃fn' xs' ys',v'= .func fn' xs' ys'/\FR φ fn fn'/\AR φ xs.toList xs'.toList/\AR φ ys.toList ys'.toList:=by cases h<;>grind[AR.of_at]
theorem VR.cells {v v' : Value} (h:VR φ v v') (ht:∀xs,v≠.tuple xs):LR φ v.cells.toList v'.cells.toList:=by
 by_cases ha:∃xs,v=.agg xs
 ·obtain⟨xs,rfl⟩:=ha
  obtain⟨xs',rfl,hl⟩:=h.toLR
  exact hl
 ·have hm:zcq v=false:=by
   cases v <;> first | rfl | grind | grind
  have e1:v.cells=#[v]:=by cases v <;> first | rfl | grind
  have hm':=h.one hm
  have e2:v'.cells=#[v']:=by cases v' <;> first | rfl | grind[Value.oneCell']
  rw[e1,e2]
  exact⟨h,hm,trivial⟩
end
def NF (m:Nat×Nat) (n:Nat):Prop:=m.1=m.2\/n<=m.1
theorem NF.at {m:Nat×Nat} {n:Nat} (k:NF m n) (o:Nat) (ho:o < n):(decide (m.1<=o) && decide (o < m.2))=false:=by
 rcases k with k | k
 all_goals grind
def ER (φ:Fi):List MapEntry->List MapEntry->Prop
 | [],[]=>True
 | x :: xs,y :: ys=>VR φ x.key y.key/\VR φ x.val y.val/\x.born=y.born/\ER φ xs ys
 | _,_=>False
section
variable (P:Program)
def zcK (φ:Fi) (e:Env) (a:Array Value):Prop:=∀i,VR φ ((e.get i).getD undef) (a.getD i undef)
def zaP (n:Nat):Code->Bool
 | .skip | .exit _ | .label _ | .goto _ | .ret | .refuse _=>true
 | .region _ ops _=>ops.toList.all λo=>match o.dst with | some d=>Nat.blt d n | none=>true
 | .seq a b=>zaP n a && zaP n b
 | .cond _ a b=>zaP n a && zaP n b
 | .block _ c=>zaP n c
 | .loop c=>zaP n c
 | .scope c=>zaP n c
 | .rangeFunc _ ps a b=>ps.toList.all (λd=>Nat.blt d n) && zaP n a && zaP n b
def OR (φ:Fi) (r:Rec):zca->Obj->Prop
 | .cells cs e ro,.cells C e' m=>e'= e/\r.esz=P.cellsOf e/\C.size=r.total/\(∃pre mid post,C.toList=pre ++ mid ++ post/\pre.length=r.shift/\LR φ cs mid)/\(ro=false->NF m r.total)
 | .map es c,.map es' c'=>c'= c/\ER φ es es'.toList
 | .siter s p,.stringIter s' p'=>s'= s/\p'= p/\r.shift=0
 | .loop L,.loop L'=>zcK φ L.env L'.tmps/\L'.params.toList=L.params/\L'.assign=L.assign/\L'.body=L.body/\L'.pending=L.pending/\
    L'.state=(match L.state with | .ready=>.ready | .busy=>.busy | .done=>.done | .over=>.exhausted)/\zaP L'.tmps.size L.assign=true/\zaP L'.tmps.size L.body=true/\(∀d∈L.params,d < L'.tmps.size)
 | _,_=>False
def zca.ro:zca->Bool
 | .cells _ _ ro=>ro
 | _=>false
structure R (φ:Fi) (h:AH) (w:World):Prop where
 obj:∀b o r,h.get b=some o->φ b=some r->∃o',w.heap[r.blk]?= some o'/\OR P φ r o o'
 inj:∀b1 b2 o1 o2 r1 r2,h.get b1=some o1->h.get b2=some o2->φ b1=some r1->φ b2=some r2->r1.blk=r2.blk->b1=b2\/(o1.ro=true/\o2.ro=true)
 lt:∀b o,h.get b=some o->b < h.next
def Own (φ:Fi) (h:AH) (c:Nat):Prop:=∃b o r,h.get b=some o/\φ b=some r/\r.blk=c/\o.ro=false
def zeB (φ:Fi) (n m:Nat):Prop:=∀b,n<=b->b < m->φ b=none
structure Tn (φ:Fi) (h:AH) (w:World) (φ' : Fi) (h' : AH) (w' : World):Prop where
 le:Le φ φ'
 new:∀b,φ' b≠none->φ b≠none\/(h.next<=b/\b < h'.next)
 nle:h.next<=h'.next
 rel:R P φ' h' w'
 size:w.heap.size<=w'.heap.size
 os:w'.os=w.os
 tape:w'.tape=w.tape
 output:w'.output=w.output
 keep:∀c,c < w.heap.size->¬Own φ h c->w'.heap[c]?= w.heap[c]?
 old:∀b o r,h'.get b=some o->φ' b=some r->r.blk < w.heap.size->∃b0 o0 r0,h.get b0=some o0/\φ b0=some r0/\r0.blk=r.blk/\(o.ro=false->o0.ro=false)
end
section
variable {P:Program} {φ φ' φ2:Fi} {h h' h2:AH} {w w' w2:World}
theorem Tn.own (t:Tn P φ h w φ' h' w') (c:Nat) (hc:c < w.heap.size) (k:Own φ' h' c):Own φ h c:=by
 obtain⟨b,o,r,h1,h2,h3,h4⟩:=k
 obtain⟨b0,o0,r0,g1,g2,g3,g4⟩:=t.old b o r h1 h2 (by omega)
 exact⟨b0,o0,r0,g1,g2,by omega,g4 h4⟩
theorem Tn.refl (r:R P φ h w):Tn P φ h w φ h w:=⟨Le.refl _,λ_ e=>.inl e,Qc _,r,Qc _,rfl,rfl,rfl,λ_ _ _=>rfl,by grind⟩
theorem Tn.trans (a:Tn P φ h w φ' h' w') (b:Tn P φ' h' w' φ2 h2 w2):Tn P φ h w φ2 h2 w2 where
 le:=a.le.trans b.le
 new:=λc e=>by
  rcases b.new c e with k | k
  ·rcases a.new c k with k | k
   ·grind
   ·exact .inr ⟨k.1,Qi k.2 b.nle⟩
  ·exact .inr ⟨Qm a.nle k.1,k.2⟩
 nle:=Qm a.nle b.nle
 rel:=b.rel
 size:=Qm a.size b.size
 os:=b.os.trans a.os
 tape:=b.tape.trans a.tape
 output:=b.output.trans a.output
 keep:=by grind[keep,own]
 old:=by grind[old,Qi,size]
theorem zeB.tn {N:Nat} (f:zeB φ h.next N) (t:Tn P φ h w φ' h' w'):zeB φ' h'.next N:=by
 intro b h1 h2
 cases e:φ' b with
 | none=>rfl
 | some r=>
   rcases t.new b (by grind) with k | k
   ·exact absurd (f b (Qm t.nle h1) h2) k
   omega
theorem zeB.mono {n m m' : Nat} (f:zeB φ n m) (hm:m'<=m):zeB φ n m':=λb h1 h2=>f b h1 (by omega)
theorem ER.mono {ψ:Fi} (h:Le φ ψ):∀{xs ys:List MapEntry},ER φ xs ys->ER ψ xs ys
 | [],[],_=>trivial
 | _ :: _,_ :: _,r=>⟨r.1.mono h,r.2.1.mono h,r.2.2.1,ER.mono h r.2.2.2⟩
theorem zcK.mono {ψ:Fi} (h:Le φ ψ) {e:Env} {a:Array Value} (r:zcK φ e a):zcK ψ e a:=λi=>(r i).mono h
theorem OR.mono {ψ:Fi} (hl:Le φ ψ) {r:Rec} {o:zca} {o' : Obj} (k:OR P φ r o o'):OR P ψ r o o':=by
 cases o <;> cases o' <;> simp only[OR] at k ⊢
 all_goals grind[LR.mono,ER.mono,zcK.mono]
theorem Tn.del (r:R P φ h w) (b:Nat):Tn P φ h w φ (h.del b) w where
 le:=Le.refl _
 new:=λ_ e=>.inl e
 nle:=Qc _
 rel:=⟨by grind[AH.get_del,R.obj],
  by grind[AH.get_del,R.inj],
  λc o hc=>by
   rw[AH.get_del] at hc
   split at hc
   ·grind
   ·exact r.lt c o hc⟩
 size:=Qc _
 os:=rfl
 tape:=rfl
 output:=rfl
 keep:=λ_ _ _=>rfl
 old:=by grind[AH.get_del]
theorem Tn.kill (r:R P φ h w) (v:Value):Tn P φ h w φ (killV h v) w:=by
 unfold killV
 grind[del,refl]
theorem R.drew (r:R P φ h w) (n:Nat):R P φ h { w with drawn:=w.drawn+n }:=⟨r.obj,r.inj,r.lt⟩
theorem Tn.alloc (r:R P φ h w) (o:zca) (O:Obj) (rc:Rec) (hf:φ h.next=none) (hb:rc.blk=w.heap.size)
 (ho:∀ψ,Le φ ψ->ψ h.next=some rc->OR P ψ rc o O) (n:Nat):
 Tn P φ h w (λb=>if b=h.next then some rc else φ b) (h.alloc o) { w with heap:=w.heap.push O,drawn:=w.drawn+n }:=by
 have hle:Le φ (λb=>if b=h.next then some rc else φ b):=by
  intro b q e
  grind
 have hold:∀b o r',h.get b=some o->φ b=some r'->r'.blk < w.heap.size:=by grind[R.obj]
 refine⟨hle,?_,by simp,⟨?_,?_,?_⟩,by simp,rfl,rfl,rfl,?_,?_⟩
 ·intro b e
  by_cases hb:b=h.next
  all_goals simp_all
 ·grind[AH.get_alloc,R.obj,OR.mono]
 ·grind[AH.get_alloc,R.inj]
 ·intro b o' h1
  rw[AH.get_alloc] at h1
  split at h1
  ·simp_all
  ·have:=r.lt b o' h1; simp; omega
 all_goals grind[AH.get_alloc]
theorem Tn.put (r:R P φ h w) {b:Nat} {o o2:zca} {rc:Rec} (hb:h.get b=some o) (hφ:φ b=some rc) (hro:o.ro=false) {O2:Obj} (ho:OR P φ rc o2 O2) (n:Nat):
 Tn P φ h w φ (h.set b o2) { w with heap:=w.heap.setIfInBounds rc.blk O2,drawn:=w.drawn+n }:=by
 obtain⟨O,hO,_⟩:=r.obj b o rc hb hφ
 refine⟨Le.refl _,λ_ e=>.inl e,Qc _,⟨?_,?_,?_⟩,by simp,rfl,rfl,rfl,?_,?_⟩
 ·intro c o' r' h1 h2
  rw[AH.get_set] at h1
  by_cases hc:c=b
  ·grind
  ·simp only[hc,if_false] at h1
   obtain⟨O',hO',hr⟩:=r.obj c o' r' h1 h2
   refine⟨O',?_,hr⟩
   rw[Array.getElem?_setIfInBounds_ne]
   ·omega
   ·intro e
    rcases r.inj c b o' o r' rc h1 hb h2 hφ e.symm with q | q
    all_goals grind
 ·intro b1 b2 o1 o2' r1 r2 h1 h2 k1 k2 e
  rw[AH.get_set] at h1 h2
  all_goals grind[R.inj]
 ·intro c o' h1
  rw[AH.get_set] at h1
  split at h1
  ·subst_vars; exact r.lt _ _ hb
  ·exact r.lt c o' h1
 ·intro c hc hno
  have:rc.blk≠c:=λe=>hno ⟨b,o,rc,hb,hφ,e,hro⟩
  grind
 grind[AH.get_set]
end
section
variable {P:Program} {φ φ' : Fi} {h h' : AH} {w w' : World}
theorem zdH (e:Env) (t:Tmp):ev e (.tmp t)=(e.get t).getD undef:=rfl
theorem VR.plain {v:Value} (h:zgJ v=true):VR φ v v:=by
 unfold zgJ at h
 split at h
 ·exact .bool _
 ·exact .int _ _
 ·exact .string _
 ·exact .ptrNil
 ·exact .sliceNil 0 0 (by decide)
 ·exact .mapNil
 ·exact .nilFunc
 ·exact .nilIface
 grind
theorem VR.eval {e:Env} {a:Array Value} (k:zcK φ e a) (x:Operand):VR φ (ev e x) (({ tmps:=a,defers:=[] }:Act).eval x):=by
 cases x with
 | tmp t=>exact k t
 | const v=>
   simp only[ev,Act.eval]
   cases hp:zgJ v with
   | false=>exact .junk _
   | true=>grind[plain]
 | global g=>exact .junk _
 | func f=>exact .func (.func f) rfl rfl (by simp) (by simp)
theorem zff {t:TypeId} {d:TypeDesc} (h:P.underlying t=some d):(P.info? t).isSome=true:=by grind[Program.underlying]
theorem zac {t:TypeId} {d:TypeDesc} (h:P.underlying t=some d) (w:World):(underlying t).run P w=.ok d w:=by simp[underlying,h]
theorem zfg {t:TypeId} {b:Bool} (h:aggT P t=some b) (w:World):(isAgg t).run P w=.ok b w:=by
 unfold aggT at h
 unfold isAgg
 cases hd:P.underlying t with
 | none=>grind
 | some d=>
   rw[hd] at h
   simp only[Sem.run_bind,zac hd,Result.andThen_ok]
   cases d <;> simp at h <;> subst h <;> simp
theorem zgM {t:TypeId} {b:Bool} (h:aggT P t=some b):(P.info? t).isSome=true:=by grind[aggT,zff]
theorem zaC {t:TypeId} (h:(P.info? t).isSome=true) (w:World):(sizeOf t).run P w=.ok (P.cellsOf t) w:=by
 obtain⟨i,hi⟩:=Option.isSome_iff_exists.1 h
 simp[sizeOf,typeInfo,hi,Program.cellsOf]
theorem zdr {t:TypeId} {i:TypeInfo} {z:Value} (hi:P.info? t=some i) (hz:i.zero=some z) (w:World):(zeroValue t).run P w=.ok z w:=by
 simp[zeroValue,typeInfo,hi,hz]
theorem zbe (b o n:Nat):(⟨b,o,none⟩:Addr).add n=⟨b,o+n,none⟩:=by grind[Addr.add]
theorem R.cells (r:R P φ h w) {b:Nat} {cs:List Value} {e:TypeId} {ro:Bool} {rc:Rec} (hb:h.get b=some (.cells cs e ro)) (hφ:φ b=some rc):
 ∃C m pre mid post,w.heap[rc.blk]?= some (.cells C e m)/\rc.esz=P.cellsOf e/\C.size=rc.total/\C.toList=pre ++ mid ++ post/\pre.length=rc.shift/\LR φ cs mid/\(ro=false->NF m rc.total):=by
 obtain⟨o',ho,hr⟩:=r.obj b _ rc hb hφ
 cases o' <;> simp only[OR] at hr
 grind
theorem zxl {C:Array Value} {pre mid post:List Value} {s:Nat} (hC:C.toList=pre ++ mid ++ post) (hs:pre.length=s) (i:Nat) (hi:i < mid.length):C[s+i]?= mid[i]?:=by
 rw[<-Qx,hC,QM,Qu (by omega),QT (by omega)]
 grind
theorem zom {b s:Nat} {C:Array Value} {e:TypeId} {m:Nat×Nat} {pre mid post:List Value} (ho:w.heap[b]?= some (.cells C e m)) (hC:C.toList=pre ++ mid ++ post) (hs:pre.length=s)
 (i:Nat) (hi:i < mid.length):w.cell? ⟨b,s+i,none⟩=mid[i]?:=by grind[World.cell?,zxl]
theorem zds {b s off n:Nat} {C:Array Value} {e:TypeId} {m:Nat×Nat} {pre mid post:List Value} (ho:w.heap[b]?= some (.cells C e m)) (hC:C.toList=pre ++ mid ++ post) (hs:pre.length=s)
 (hn:off+n<=mid.length):(loadCells ⟨b,s+off,none⟩ n).run P w=.ok ((mid.drop off).take n).toArray w:=by
 have:=run_loadCells_list (P:=P) (w:=w) ⟨b,s+off,none⟩ ((mid.drop off).take n) (λj v hj=>by
  have hj' : j < n:=by grind
  rw[zbe,Ja,zom ho hC hs (off+j) (by omega)]
  grind)
 grind
theorem zjA (r:R P φ h w) {t:TypeId} {v v' u:Value} (hl:zbL P h t v=some u) (hv:VR φ v v'):
 ∃u',(Instr.loadAt t v').run P w=.ok u' w/\VR φ u u':=by
 unfold zbL at hl
 split at hl
 ·rename_i b off
  split at hl
  ·rename_i cs e ro hb
   cases hv with
   | ptr hφ=>
     obtain⟨C,m,pre,mid,post,ho,_,_,hC,hs,hlr,_⟩:=r.cells hb hφ
     have hlen:=hlr.length
     split at hl
     ·rename_i hag
      split at hl
      ·simp only[Qa] at hl
       refine⟨.agg ((mid.drop off).take (P.cellsOf t)).toArray,?_,?_⟩
       ·simp[Instr.loadAt,Instr.sureAddr,loadVar,zfg hag,zaC (zgM hag),zds ho hC hs (show off+P.cellsOf t<=mid.length by omega)]
       grind[LR.agg,LR.drop,LR.take]
      grind
     ·rename_i hag
      obtain⟨hm,u',hu',hr⟩:=hlr.at off u hl
      refine⟨u',?_,hr⟩
      have hoff:off < mid.length:=by grind
      simp[Instr.loadAt,Instr.sureAddr,loadVar,zfg hag,zom ho hC hs off hoff,hu']
     grind
  grind
 grind
theorem zcV (g o:Nat) (t:TypeId) (m:Nat×Nat):∀(vs:List Value) (i:Nat) (cur:Array Value) (w:World),w.heap[g]?= some (.cells cur t m)->NF m cur.size->o+i+vs.length<=cur.size->(∀v∈vs,v.oneCell'= true)->
 (storeCells ⟨g,o,none⟩ vs i).run P w=.ok () (w.setRow g (cur.toList.take (o+i) ++ vs ++ cur.toList.drop (o+i+vs.length)).toArray)
 | [],i,cur,w,hg,_,_,_=>by
   simp only[storeCells,QS,List.length_nil,Nat.add_zero,Jl,Array.toArray_toList]
   rw[setRow_self w g cur t m hg]
   rfl
 | v :: rest,i,cur,w,hg,hf,hl,h1=>by
   have hi:o+i < cur.size:=by grind
   have hadd:(⟨g,o,none⟩:Addr).add i=⟨g,o+i,none⟩:=zbe g o i
   have hcell:w.cell? ⟨g,o+i,none⟩=some cur[o+i]:=by grind[World.cell?]
   have hfro:w.frozen? ⟨g,o+i,none⟩=false:=by grind[NF.at,World.frozen?]
   have hst:(store ((⟨g,o,none⟩:Addr).add i) v).run P w=.ok () (w.setRow g (cur.setIfInBounds (o+i) v)):=by grind[run_store,setCell_eq_setRow]
   have ih:=zcV g o t m rest (i+1) (cur.setIfInBounds (o+i) v) (w.setRow g (cur.setIfInBounds (o+i) v)) (by grind[setRow_heap]) (by grind) (by grind) (by grind)
   simp only[storeCells,Sem.run_bind,hst,Result.andThen_ok,ih,setRow_setRow]
   congr 3
   have e:=list_seg_step cur.toList (o+i) v rest (by omega)
   simpa[Array.toList_setIfInBounds,Ja] using e
theorem zhF {g:Nat} {cur cs:Array Value} {t:TypeId} {m:Nat×Nat} (hg:w.heap[g]?= some (.cells cur t m)):w.setRow g cs={ w with heap:=w.heap.setIfInBounds g (.cells cs t m),drawn:=w.drawn+0 }:=by
 have hlt:g < w.heap.size:=(by grind)
 unfold World.setRow
 congr 1
 grind
theorem zbF (r:R P φ h w) {b off:Nat} {vs ws:List Value} {h' : AH} {rc:Rec} (hs:zap h b off vs=some h') (hφ:φ b=some rc) (hl:LR φ vs ws):
 ∃w',(storeCells ⟨rc.blk,rc.shift+off,none⟩ ws).run P w=.ok () w'/\Tn P φ h w φ h' w':=by
 unfold zap at hs
 split at hs
 ·rename_i cs e hb
  split at hs
  ·simp only[Qa] at hs
   subst hs
   obtain⟨C,m,pre,mid,post,ho,hes,htot,hC,hsh,hlr,hnf⟩:=r.cells hb hφ
   have hlen:=hlr.length
   have hlen2:=hl.length
   have hsz:C.size=pre.length+mid.length+post.length:=by grind[QZ]
   have hrun:=zcV (P:=P) rc.blk (rc.shift+off) e m ws 0 C w ho (by grind) (by omega) hl.one
   have hrow:(C.toList.take (rc.shift+off+0) ++ ws ++ C.toList.drop (rc.shift+off+0+ws.length)).toArray=(pre ++ (mid.take off ++ ws ++ mid.drop (off+ws.length)) ++ post).toArray:=by
    have e1:(pre ++ mid ++ post).take (rc.shift+off)=pre ++ mid.take off:=by
     rw[QM,List.take_append,QA (by omega),List.take_append]
     have:rc.shift+off - pre.length - mid.length=0:=by omega
     simp_all
    have e2:(pre ++ mid ++ post).drop (rc.shift+off+ws.length)=mid.drop (off+ws.length) ++ post:=by
     rw[QM,QL,Q6 (by omega),QR,QL]
     have:rc.shift+off+ws.length - pre.length - mid.length=0:=by omega
     grind
    grind
   rw[hrow,zhF ho] at hrun
   refine⟨_,hrun,?_⟩
   refine Tn.put r hb hφ rfl ?_ 0
   refine⟨rfl,hes,?_,⟨pre,mid.take off ++ ws ++ mid.drop (off+ws.length),post,rfl,hsh,?_⟩,λ_=>hnf rfl⟩
   all_goals grind[LR.take,LR.append,LR.drop]
  grind
 grind
theorem zmU (r:R P φ h w) {t:TypeId} {a a' v v' : Value} {h' : AH} (hs:zbM P h t a v=some h') (ha:VR φ a a') (hv:VR φ v v'):
 ∃w',(Instr.storeAt t a' v').run P w=.ok () w'/\Tn P φ h w φ h' w':=by
 unfold zbM at hs
 split at hs
 ·grind
 ·rename_i b off hnt
  split at hs
  ·rename_i hsz
   cases ha with
   | ptr hφ=>
     have hlr:=hv.cells (λxs e=>hnt xs e)
     obtain⟨w',hw,ht⟩:=zbF r hs hφ hlr
     refine⟨w',?_,ht⟩
     have hl:=hlr.length
     simp only[QZ] at hl
     simp[Instr.storeAt,Instr.sureAddr,storeVar,zaC hsz.2,<-hl,hsz.1,hw]
  grind
 grind
theorem zhG {s:TypeId} {x x' u:Value} {f:Nat} (hs:zbI P s x f=some u) (hx:VR φ x x') (w:World):
 ∃u',(Instr.fieldAt s x' f).run P w=.ok u' w/\VR φ u u':=by
 unfold zbI at hs
 split at hs
 ·rename_i fs hu
  split at hs
  ·rename_i fd b off hf
   split at hs
   ·grind
   ·rename_i hz
    simp only[Qa] at hs
    subst hs
    have hinfo:(P.info? fd.type).isSome=true:=by
     unfold Program.cellsOf at hz
     cases hq:P.info? fd.type<;>grind
    cases hx with
    | ptr hφ=>
      refine⟨_,?_,.ptr hφ⟩
      simp[Instr.fieldAt,zac hu,hf,Instr.sureAddr,fieldPlace,zaC hinfo,hz,zbe,Ja]
  grind
 grind
theorem zhH {t:TypeId} {x x' i i' u:Value} (hs:za9 P t x i=some u) (hx:VR φ x x') (hi:VR φ i i') (w:World):
 ∃u',(Instr.indexAt t x' i').run P w=.ok u' w/\VR φ u u':=by
 unfold za9 at hs
 split at hs
 ·rename_i n elem b off k j hu
  split at hs
  ·rename_i hc
   simp only[Qa] at hs
   subst hs
   cases hi
   cases hx with
   | ptr hφ=>
     refine⟨_,?_,.ptr hφ⟩
     simp[Instr.indexAt,asIntOf,zac hu,Instr.sureAddr,hc.1,hc.2.1,zaC hc.2.2,zbe,Ja]
  grind
 ·rename_i elem b off n c k j hu
  split at hs
  ·rename_i hc
   simp only[Qa] at hs
   subst hs
   cases hi
   cases hx with
   | slice hφ _=>
     refine⟨_,?_,.ptr hφ⟩
     simp[Instr.indexAt,asIntOf,zac hu,hc.1,hc.2.1,zaC hc.2.2,zbe,Ja]
   | sliceO hφ _ _ _=>
     refine⟨_,?_,.ptr hφ⟩
     simp[Instr.indexAt,asIntOf,zac hu,hc.1,hc.2.1,zaC hc.2.2,zbe,Ja]
   | sliceE hφ=>omega
   | sliceY=>omega
  grind
 grind
theorem zle (cs:Array Value) (a b:Nat):(cs.extract a b).toList=(cs.toList.drop a).take (b - a):=by simp
theorem zjB {t:TypeId} {cs cs' : Array Value} {off:Nat} {u:Value} (hs:aPart P t cs off=some u) (hc:LR φ cs.toList cs'.toList) (w:World):
 ∃u',(part t cs' off).run P w=.ok u' w/\VR φ u u':=by
 unfold aPart at hs
 split at hs
 ·rename_i hag
  simp only[Qa] at hs
  subst hs
  refine⟨.agg (cs'.extract off (off+P.cellsOf t)),by simp[part,zfg hag,zaC (zgM hag)],LR.agg ?_⟩
  grind[zle,LR.drop,LR.take]
 ·rename_i hag
  obtain⟨_,u',hu',hr⟩:=hc.at off u (by grind)
  refine⟨u',?_,hr⟩
  have:cs'[off]?= some u':=by grind
  simp[part,zfg hag,this]
 grind
theorem zmV {t:TypeId} {x x' i i' u:Value} (hs:zdG P t x i=some u) (hx:VR φ x x') (hi:VR φ i i') (w:World):
 ∃u',(Instr.index t x' i').run P w=.ok u' w/\VR φ u u':=by
 unfold zdG at hs
 split at hs
 ·rename_i n elem cs k j hu
  split at hs
  ·rename_i hc
   cases hi
   obtain⟨cs',rfl,hl⟩:=hx.toLR
   obtain⟨u',h1,h2⟩:=zjB hs hl w
   exact⟨u',by simp[Instr.index,asIntOf,zac hu,hc.1,hc.2.1,zaC hc.2.2,h1],h2⟩
  grind
 ·rename_i s k j hu
  split at hs
  ·rename_i hc
   cases hi
   cases hx
   cases hb:s[j.toNat]? with
   | none=>grind
   | some c=>
     simp[hb] at hs
     subst hs
     exact⟨_,by simp[Instr.index,asIntOf,zac hu,hc,hb],.int _ _⟩
  grind
 grind
theorem zmW {t:TypeId} {x x' u:Value} {f:Nat} (hs:zeA P t x f=some u) (hx:VR φ x x') (w:World):
 ∃u',(Instr.field t x' f).run P w=.ok u' w/\VR φ u u':=by
 unfold zeA at hs
 split at hs
 ·rename_i fs cs hu
  split at hs
  ·rename_i fd hf
   obtain⟨cs',rfl,hl⟩:=hx.toLR
   obtain⟨u',h1,h2⟩:=zjB hs hl w
   exact⟨u',by simp[Instr.field,zac hu,hf,asAgg,h1],h2⟩
  grind
 grind
end
end Go.Am
