/-
  Texts of this proof, part 16. No condition.
-/
import Derived.Test.YtmnbboleclchcaaGreatFAm9e
set_option linter.unusedVariables false
set_option linter.unusedSimpArgs false
namespace Go.Am
section
def zmS (K:Xs) (fa:FuncId) (x:XF):Xs:=λf=>cond (Nat.beq f fa) (some x) (K f)
theorem zig {K:Xs} {fa:FuncId} {x:XF}:zmS K fa x fa=some x:=by
 unfold zmS
 rw[QG]
 rfl
theorem zf7 {K:Xs} {f fa:FuncId} {x:XF} (hn:f≠fa):zmS K fa x f=K f:=by
 unfold zmS
 rw[zjf hn]
 rfl
variable {P:Program} {K:Xs}
def zt6:List Value->AH->Option (Value×AH)
 | [],h=>some (.bool true,h)
 | _,_=>none
theorem zpS (G:zdM P) (X:zbK P K) {n:Nat} {f:FuncId} (hs:zlF (zbJ P K (ex P K n) f [] ⟨.nil,0⟩)=true) (cs:List Frame) {φ:Fi} {h:AH} {w:World} (hr:R P φ h w):
 ∃w' fr,Tn P φ h w φ h w'/\Steps P (lone (Frame.enter P f #[] .normal) cs w) (lone fr cs w')/\fr.fn=f/\fr.leaving P w' (.returned (.bool true)):=by
 obtain⟨h1,hc⟩:=zlG hs
 obtain⟨φ1,v1,w1,fr,t,hv,st,hfn,hl⟩:=zbZ G X (zdv G X n) f [] ⟨.nil,0⟩ (.bool true) h1 hc h1.next (λ_=>none) [] w cs (Qc _) (λ_ _ _=>rfl) trivial (R.empty 0)
 cases hv
 have hkeep:∀c,c < w.heap.size->w1.heap[c]?= w.heap[c]?:=λc hc'=>t.keep c hc' (by
  rintro⟨b,o,rc,k1,_⟩
  simp[AH.get,Tr.get_nil] at k1)
 refine⟨w1,fr,⟨Le.refl _,λ_ e=>.inl e,Qc _,⟨λb o rc k1 k2=>?_,hr.inj,hr.lt⟩,t.size,t.os,t.tape,t.output,λc hc' _=>hkeep c hc',λb o rc k1 k2 _=>⟨b,o,rc,k1,k2,rfl,id⟩⟩,st,hfn,hl⟩
 obtain⟨o',h3,h4⟩:=hr.obj b o rc k1 k2
 exact⟨o',by rw[hkeep _ (Array.getElem?_eq_some_iff.1 h3).1]; exact h3,h4⟩
theorem zfs (X:zbK P K) {fa:FuncId} {g:List Value->AH->Option (Value×AH)} (hb:∃fn c,P.funcs[fa]?= some fn/\fn.body=some c)
 (hs:∀args h v h',g args h=some (v,h')->h.next<=h'.next->∀(N:Nat) φ args' w cs,h'.next<=N->zeB φ h.next N->AR φ args args'->R P φ h w->
   ∃φ' v' w' fr,Tn P φ h w φ' h' w'/\VR φ' v v'/\Steps P (lone (Frame.enter P fa args'.toArray .normal) cs w) (lone fr cs w')/\fr.fn=fa/\fr.leaving P w' (.returned v')):zbK P (zmS K fa (.sum g)) where
 ext:=λf x hk=>by
  by_cases hf:f=fa
  ·subst hf
   rw[zig] at hk
   simp at hk
  ·rw[zf7 hf] at hk
   exact X.ext f x hk
 body:=λf x hk=>by
  by_cases hf:f=fa
  ·subst hf
   exact hb
  ·rw[zf7 hf] at hk
   exact X.body f x hk
 sum:=λf x hk=>by
  by_cases hf:f=fa
  ·subst hf
   rw[zig] at hk
   simp only[Qa,XF.sum.injEq] at hk
   subst hk
   exact hs
  ·rw[zf7 hf] at hk
   exact X.sum f x hk
theorem znw (G:zdM P) (X:zbK P K) {n:Nat} {fa:FuncId} (hs:zlF (zbJ P K (ex P K n) fa [] ⟨.nil,0⟩)=true):zbK P (zmS K fa (.sum zt6)):=by
 refine zfs X ?_ ?_
 ·obtain⟨h1,hc⟩:=zlG hs
  exact zhT X hc
 ·intro args h v h' hg hn N φ args' w cs hN hF ha hr
  unfold zt6 at hg
  split at hg
  ·simp only[Qa,Qf] at hg
   obtain⟨rfl,rfl⟩:=hg
   cases args' with
   | nil=>
     obtain⟨w',fr,t,st,hfn,hl⟩:=zpS G X hs cs hr
     exact⟨φ,.bool true,w',fr,t,.bool _,st,hfn,hl⟩
   | cons _ _=>exact ha.elim
  ·simp at hg
def zpT (P:Program) (K:Xs) (fa:FuncId) (g:List Value->AH->Option (Value×AH)):Prop:=
 ∀args h v h',(∀b o,h.get b=some o->b < h.next)->g args h=some (v,h')->∃n h1,zeU P (ex P K n) fa args h=some (v,h1)/\(∀b o,h'.get b=some o->h1.get b=some o)/\h1.next<=h'.next
theorem zem (G:zdM P) (X:zbK P K) {fa:FuncId} {g:List Value->AH->Option (Value×AH)} (hb:∃fn c,P.funcs[fa]?= some fn/\fn.body=some c) (T:zpT P K fa g):zbK P (zmS K fa (.sum g)):=by
 refine zfs X hb ?_
 intro args h v h' hg hn N φ args' w cs hN hF ha hr
 obtain⟨n,h1,hb,hk,hle⟩:=T args h v h' hr.lt hg
 obtain⟨φ',v',w',fr,t,hv,st,hfn,hl⟩:=zjD G (zdv G X n) fa args h v h1 hb N φ args' w cs (by omega) hF ha hr
 exact⟨φ',v',w',fr,⟨t.le,λb q=>(t.new b q).imp id (λq=>⟨q.1,by omega⟩),hn,⟨λb o rc k1 k2=>t.rel.obj b o rc (hk b o k1) k2,λb1 b2 o1 o2 r1 r2 k1 k2=>t.rel.inj b1 b2 o1 o2 r1 r2 (hk _ _ k1) (hk _ _ k2),λb o k1=>Qi (t.rel.lt b o (hk _ _ k1)) hle⟩,
  t.size,t.os,t.tape,t.output,t.keep,λb o rc k1=>t.old b o rc (hk _ _ k1)⟩,hv,st,hfn,hl⟩
theorem zrx {P:Program} {K:Xs} {h:AH} {f:FuncId} {args:List Value} {Q:Value->AH->Prop} {g:List Value->AH->Option (Value×AH)} (hk:K f=some (.sum g)) {v:Value} {h' : AH} (hg:g args h=some (v,h')) (hn:h.next<=h'.next) (hq:Q v h'):
 Wf P K f args h Q:=by
 refine⟨0,v,h',?_,hq⟩
 unfold zdQ
 rw[hk]
 simp only
 unfold zbJ zpj
 rw[hk]
 simp only[hg]
 have:Nat.ble h.next h'.next=true:=Nat.ble_eq_true_of_le hn
 simp only[this]
end
noncomputable section
def tlR (l:List Value):List Value:=List.rec (motive:=λ_=>List Value) [] (λ_ t _=>t) l
def zih (n:Nat) (l:List Value):List Value:=Nat.rec (motive:=λ_=>List Value->List Value) (λl=>l) (λ_ g l=>g (tlR l)) (Nat.mod n 8) (Nat.rec (motive:=λ_=>List Value->List Value) (λl=>l) (λ_ g l=>g (tlR (tlR (tlR (tlR (tlR (tlR (tlR (tlR l))))))))) (Nat.div n 8) l)
def zwd (l:List Value):Option Value:=List.rec (motive:=λ_=>Option Value) none (λv _ _=>some v) l
def zii (n:Nat):List Value->Option (List Value):=Nat.rec (motive:=λ_=>List Value->Option (List Value)) (λ_=>some []) (λ_ g l=>List.rec (motive:=λ_=>Option (List Value)) none (λv t _=>Option.rec (motive:=λ_=>Option (List Value)) none (λr=>some (v :: r)) (g t)) l) n
def zzA (vs:List Value):List Value->Option (List Value):=List.rec (motive:=λ_=>List Value->Option (List Value)) (λl=>some l) (λv _ g l=>List.rec (motive:=λ_=>Option (List Value)) none (λ_ t _=>Option.rec (motive:=λ_=>Option (List Value)) none (λr=>some (v :: r)) (g t)) l) vs
def zl5 (vs:List Value) (n:Nat):List Value->Option (List Value):=Nat.rec (motive:=λ_=>List Value->Option (List Value)) (zzA vs) (λ_ g l=>List.rec (motive:=λ_=>Option (List Value)) none (λv t _=>Option.rec (motive:=λ_=>Option (List Value)) none (λr=>some (v :: r)) (g t)) l) n
def zry {α:Type} (n:Nat):List α->Option α:=Nat.rec (motive:=λ_=>List α->Option α) (λl=>List.rec (motive:=λ_=>Option α) none (λv _ _=>some v) l) (λ_ g l=>List.rec (motive:=λ_=>Option α) none (λ_ t _=>g t) l) n
def zeZ (ops:List Oper) (o:Oper) (e:Env):Option Bool:=
 match o.guard with
 | none=>some true
 | some (j,w)=>match (zry j ops).bind (·.dst) with | some d=>(match e.get d with | some (.bool b)=>some (b == w) | some v=>cond (isSkip v) (some false) none | none=>none) | none=>none
section
variable (P:Program) (K:Xs)
def zwe (h:AH) (t:TypeId) (v:Value):Option Value:=
 match v with
 | .pointer (some ⟨b,off,none⟩)=>
   match h.get b with
   | some (.cells cs _ _)=>
     match aggT P t with
     | some true=>match Nat.beq (P.cellsOf t) 0,zii (P.cellsOf t) (zih off cs) with | false,some l=>some (.agg l.toArray) | _,_=>zbL P h t v
     | some false=>zwd (zih off cs)
     | none=>none
   | _=>none
 | _=>none
def zrz (h:AH) (b off:Nat) (vs:List Value):Option AH:=match h.get b with | some (.cells cs e false)=>(match zl5 vs off cs with | some l=>some (h.set b (.cells l e false)) | none=>none) | _=>none
def zrA (h:AH) (t:TypeId) (a v:Value):Option AH:=
 match a,v with
 | _,.tuple _=>none
 | .pointer (some ⟨b,off,none⟩),v=>if v.cells.size=P.cellsOf t/\(P.info? t).isSome=true then zrz h b off v.cells.toList else none
 | _,_=>none
def zwf (t:TypeId) (cs:Array Value) (off:Nat):Option Value:=match aggT P t with | some true=>(match zii (P.cellsOf t) (zih off cs.toList) with | some l=>some (.agg l.toArray) | none=>aPart P t cs off) | some false=>zwd (zih off cs.toList) | none=>none
def zrB (t:TypeId) (x:Value) (f:Nat):Option Value:=
 match P.underlying t,x with
 | some (.struct fs),.agg cs=>match zry f fs.toList with | some fd=>zwf P fd.type cs fd.offset | none=>none
 | _,_=>none
def zt7 (place:Nat->Option (Nat×Nat)) (ps:List (Nat×Value)):List Value->Option (List Value):=List.rec (motive:=λ_=>List Value->Option (List Value)) (λl=>some l)
 (λp _ g l=>match place p.1 with | some (off,size)=>(match Nat.beq p.2.cells.size size with | true=>(match zl5 p.2.cells.toList off l with | some l=>g l | none=>none) | false=>none) | none=>none) ps
def zrC (t:TypeId) (parts:Array (Nat×Value)):Option Value:=
 if parts.toList.any (λp=>zdO p.2) then none else
 match zao P t,P.underlying t with
 | some z,some (.struct fields)=>
   if fields.toList.all (λf=>(P.info? f.type).isSome) then (match zt7 (λi=>(zry i fields.toList).map λf=>(f.offset,P.cellsOf f.type)) parts.toList z with | some l=>some (.agg l.toArray) | none=>zbA P t parts) else none
 | _,_=>zbA P t parts
def zrD (h:AH) (t:TypeId) (len:Nat) (parts:Array (Nat×Value)):Option (Value×AH):=
 if parts.toList.any (λp=>zdO p.2) then none else
 match P.underlying t with
 | some (.slice elem)=>
   match P.info? elem,zao P elem with
   | some i,some z=>
     if len * i.size<=16777216/\z.length=i.size/\len < zai then
      match zt7 (λj=>some (j * i.size,i.size)) parts.toList ((List.replicate len z).flatten) with
      | some cs=>some (.slice (some ⟨h.next,0,none⟩) len len,h.alloc (.cells cs elem false))
      | none=>zar P h t len parts
     else none
   | _,_=>none
 | _=>none
def zxy (o:Oper) (e:Env) (h:AH) (z:Option (Value×AH)):Option (Value×AH):=
 match o.op with
 | .load t a=>(zwe P h t (ev e a)).map (·,h)
 | .store t a v=>(zrA P h t (ev e a) (ev e v)).map (undef,·)
 | .field t x f=>(zrB P t (ev e x) f).map (·,h)
 | .build t parts=>(zrC P t (parts.map λ(i,x)=>(i,ev e x))).map (·,h)
 | .buildSlice t n parts=>zrD P h t n (parts.map λ(i,x)=>(i,ev e x))
 | _=>z
def opK (r:Ex) (o:Oper) (e:Env) (h:AH):Option (Value×AH):=zxy P o e h (runOp P K r o e h)
def zxz (r:Ex) (ks:List Tmp) (ops:Array Oper):List Oper->Env->AH->Option (Env×AH):=λl=>List.rec (motive:=λ_=>Env->AH->Option (Env×AH)) (λe h=>some (e,h))
 (λo _ g e h=>match zeZ ops.toList o e with
   | some true=>
     match (match ks with | []=>opK P K r o e h | _=>runOp P K r o e (preKill ks o.dst e h)) with
     | some (v,h')=>g (putO e o.dst v) h'
     | none=>none
   | some false=>g (putO e o.dst zdq) h
   | none=>none) l
def zy9 (r:Ex) (ops:Array Oper) (l:List Nat):Env->AH->Option (List (Env×AH)):=List.rec (motive:=λ_=>Env->AH->Option (List (Env×AH))) (λe h=>some [(e,h)])
 (λj _ g e h=>match zry j ops.toList with
   | some o=>
     match zeZ ops.toList o e with
     | some true=>(match opK P K r o e h with | some (v,h')=>(match g (putO e o.dst v) h' with | some l=>some ((e,h) :: l) | none=>none) | none=>none)
     | some false=>(match g (putO e o.dst zdq) h with | some l=>some ((e,h) :: l) | none=>none)
     | none=>none
   | none=>none) l
def zkD (ops:Array Oper) (ord:List Nat) (l:List (Env×AH)) (p q:Nat):Bool:=
 match (zry p ord).bind (zry · ops.toList),zry p l,zry (p+1) l,zry q l with
 | some o,some (e,_),some (e1,_),some (_,h)=>
   match zeZ ops.toList o e with
   | some false=>true
   | some true=>match o.dst,zxy P o e h (aOp P o e h) with | some d,some (v,_)=>eqV v (ev e1 (.tmp d)) | _,_=>false
   | none=>false
 | _,_,_,_=>false
def zt8 (r:Ex) (ops:Array Oper) (e:Env) (h:AH):Option (Env×AH):=
 match zvF P ops with
 | some (ord,ps)=>
   match zy9 P K r ops ord e h with
   | some l=>
     match ps.all (λp=>zkD P ops ord l p.1 p.2 && zkD P ops ord l p.1 (p.2+1)) with
     | true=>l.getLast?
     | false=>none
   | none=>none
 | none=>none
def exQ (n:Nat):Ex:=Nat.rec (motive:=λ_=>Ex) (λ_ _ _ _ _=>none) (λ_ r rd ks c e h=>match c with
 | .region _ ops false=>(match zxz P K r ks ops ops.toList e h with | some (e',h')=>some (.normal,e',h') | none=>none)
 | .region _ ops true=>(match zt8 P K r ops e h with | some (e',h')=>some (.normal,e',h') | none=>none)
 | c=>zaK P K r rd ks c e h) n
end
end
section
variable {P:Program} {K:Xs}
theorem tlR_eq (l:List Value):tlR l=l.drop 1:=by cases l <;> rfl
theorem zzB (k:Nat):∀l:List Value,Nat.rec (motive:=λ_=>List Value->List Value) (λl=>l) (λ_ g l=>g (tlR l)) k l=l.drop k:=by
 induction k with
 | zero=>intro l; rfl
 | succ k ih=>intro l; exact (ih _).trans (by rw[tlR_eq,QC,Nat.add_comm])
theorem zzC (k:Nat):∀l:List Value,Nat.rec (motive:=λ_=>List Value->List Value) (λl=>l) (λ_ g l=>g (tlR (tlR (tlR (tlR (tlR (tlR (tlR (tlR l))))))))) k l=l.drop (8 * k):=by
 induction k with
 | zero=>intro l; rfl
 | succ k ih=>intro l; exact (ih _).trans (by simp only[tlR_eq,QC]; congr 1; omega)
theorem zen (n:Nat) (l:List Value):zih n l=l.drop n:=by
 refine (zzB _ _).trans ?_
 rw[zzC,QC]
 congr 1
 exact Nat.div_add_mod n 8
theorem zij {α:Type} (n:Nat):∀l:List α,zry n l=l[n]?:=by
 induction n with
 | zero=>intro l; cases l <;> rfl
 | succ n ih=>intro l; cases l with
   | nil=>rfl
   | cons v t=>exact (ih t).trans (by simp)
theorem zoI (l:List Value):zwd l=l[0]?:=by cases l <;> rfl
theorem zkE (n:Nat):∀l:List Value,zii n l=if n<=l.length then some (l.take n) else none:=by
 induction n with
 | zero=>intro l; simp; rfl
 | succ n ih=>intro l; cases l with
   | nil=>rfl
   | cons v t=>
     show Option.rec (motive:=λ_=>Option (List Value)) none (λr=>some (v :: r)) (zii n t)=_
     rw[ih]
     by_cases h:n<=t.length <;> simp[h]
theorem zwg (vs:List Value):∀l:List Value,zzA vs l=if vs.length<=l.length then some (vs ++ l.drop vs.length) else none:=by
 induction vs with
 | nil=>intro l; simp; rfl
 | cons v vs ih=>intro l; cases l with
   | nil=>rfl
   | cons u t=>
     show Option.rec (motive:=λ_=>Option (List Value)) none (λr=>some (v :: r)) (zzA vs t)=_
     rw[ih]
     by_cases h:vs.length<=t.length <;> simp[h]
theorem zl6 (vs:List Value) (n:Nat):∀l:List Value,zl5 vs n l=if n+vs.length<=l.length then some (l.take n ++ vs ++ l.drop (n+vs.length)) else none:=by
 induction n with
 | zero=>intro l; exact (zwg vs l).trans (by simp)
 | succ n ih=>intro l; cases l with
   | nil=>simp; rfl
   | cons u t=>
     show Option.rec (motive:=λ_=>Option (List Value)) none (λr=>some (u :: r)) (zl5 vs n t)=_
     rw[ih]
     by_cases h:n+vs.length<=t.length
     ·simp[h,show n+1+vs.length<=t.length+1 by omega,show n+1+vs.length=(n+vs.length)+1 by omega]
     ·simp[h,show ¬n+1+vs.length<=t.length+1 by omega]
theorem zf8 (ops:Array Oper) (o:Oper) (e:Env):zeZ ops.toList o e=zaI ops o e:=by
 unfold zeZ zaI
 simp only[zij,Qx]
 rfl
theorem zoJ (h:AH) (t:TypeId) (v:Value):zwe P h t v=zbL P h t v:=by
 unfold zwe
 split
 rotate_left
 ·simp_all[zbL]
 split
 rotate_left
 ·simp_all[zbL]
 split
 ·split
  ·rename_i h0 h1
   simp only[zbL, *,zen,zkE,Q3] at h1 ⊢
   have:=Nat.ne_of_beq_eq_false h0
   split at h1
   ·cases h1; rw[if_pos (by omega)]
   ·cases h1
  ·rfl
 ·simp[zbL, *,zoI,zen]
 ·simp[zbL, *]
theorem zrE (h:AH) (b off:Nat) (vs:List Value):zrz h b off vs=zap h b off vs:=by
 unfold zrz zap
 simp only[zl6]
 split
 ·split <;> simp_all
 ·simp_all
theorem zl7 (h:AH) (t:TypeId) (a v:Value):zrA P h t a v=zbM P h t a v:=by
 unfold zrA zbM
 simp only[zrE]
 rfl
theorem zwh {cs:Array Value} {n off:Nat} {l:List Value} (h:zii n (zih off cs.toList)=some l):l.toArray=cs.extract off (off+n):=by
 rw[zen,zkE] at h
 split at h <;> cases h
 apply Array.ext'
 simp[List.drop_take]
theorem zt9 (t:TypeId) (cs:Array Value) (off:Nat):zwf P t cs off=aPart P t cs off:=by
 unfold zwf
 split
 ·split
  ·rename_i h1 _ _ h; simp only[aPart,h1,zwh h]
  ·rfl
 ·simp_all[aPart,zoI,zen]
 ·simp_all[aPart]
theorem zl8 (t:TypeId) (x:Value) (f:Nat):zrB P t x f=zeA P t x f:=by
 unfold zrB zeA
 simp only[zij,Qx,zt9]
 rfl
theorem zkF {place:Nat->Option (Nat×Nat)}:∀{ps:List (Nat×Value)} {l r:List Value},zt7 place ps l=some r->zdd place l ps=some r
 | [],l,r,h=>h
 | p :: ps,l,r,h=>by
   change (match place p.1 with | some (off,size)=>(match Nat.beq p.2.cells.size size with | true=>(match zl5 p.2.cells.toList off l with | some l=>zt7 place ps l | none=>none) | false=>none) | none=>none)=some r at h
   unfold zdd
   split at h
   ·rename_i e
    split at h
    ·rename_i h1
     split at h
     ·rename_i h2
      rw[zl6] at h2
      split at h2 <;> cases h2
      simp only[e]
      rw[if_pos ⟨by simpa using Qb h1,by assumption⟩]
      exact zkF h
     ·cases h
    ·cases h
   ·cases h
theorem zl9 (t:TypeId) (parts:Array (Nat×Value)):zrC P t parts=zbA P t parts:=by
 unfold zrC
 split
 ·simp_all[zbA]
 split
 ·split
  ·split
   ·rename_i h1 _ _ _ _ h2 h3 h4 _ _ h5
    have:=zcc (cs:=_) (zkF h5)
    simp_all[zbA,zij]
   ·rfl
  ·grind [zbA]
 ·rfl
theorem zma (h:AH) (t:TypeId) (len:Nat) (parts:Array (Nat×Value)):zrD P h t len parts=zar P h t len parts:=by
 unfold zrD
 split
 ·simp_all[zar]
 split
 ·split
  ·split
   ·split
    ·rename_i h5
     have:=zcc (cs:=(_:List Value).toArray) (zkF h5)
     simp_all[zar]
    ·rfl
   ·grind [zar]
  ·simp_all[zar]
 ·simp_all[zar]
theorem zu4 (r:Ex) (o:Oper) (e:Env) (h:AH):opK P K r o e h=runOp P K r o e h:=by
 unfold opK zxy
 split
 all_goals first | rfl | (rename_i hq; simp only[runOp,aOp,hq,zoJ,zl7,zl8,zl9,zma])
theorem zxA (o:Oper) (e:Env) (h:AH):zxy P o e h (aOp P o e h)=aOp P o e h:=by
 unfold zxy
 split
 all_goals first | rfl | (rename_i hq; simp only[aOp,hq,zoJ,zl7,zl8,zl9,zma])
theorem zrF (r:Ex) (ks:List Tmp) (ops:Array Oper):∀(l:List Oper) (e:Env) (h:AH),zxz P K r ks ops l e h=zbj P K r ks ops l e h
 | [],e,h=>rfl
 | o :: l,e,h=>by
   change (match zeZ ops.toList o e with
    | some true=>(match (match ks with | []=>opK P K r o e h | _=>runOp P K r o e (preKill ks o.dst e h)) with | some (v,h')=>zxz P K r ks ops l (putO e o.dst v) h' | none=>none)
    | some false=>zxz P K r ks ops l (putO e o.dst zdq) h
    | none=>none)=_
   have hk:(match ks with | []=>opK P K r o e h | _=>runOp P K r o e (preKill ks o.dst e h))=runOp P K r o e (preKill ks o.dst e h):=by
    cases ks with
    | nil=>simp only[zu4]; cases hd:o.dst <;> simp[preKill]
    | cons=>rfl
   simp only[hk,zf8,zrF r ks ops l,zbj]
   rfl
theorem zrG (r:Ex) (ops:Array Oper):∀(l:List Nat) (e:Env) (h:AH),zy9 P K r ops l e h=zcU P K r ops l e h
 | [],e,h=>rfl
 | j :: l,e,h=>by
   change (match zry j ops.toList with
    | some o=>
      (match zeZ ops.toList o e with
      | some true=>(match opK P K r o e h with | some (v,h')=>(match zy9 P K r ops l (putO e o.dst v) h' with | some l=>some ((e,h) :: l) | none=>none) | none=>none)
      | some false=>(match zy9 P K r ops l (putO e o.dst zdq) h with | some l=>some ((e,h) :: l) | none=>none)
      | none=>none)
    | none=>none)=_
   simp only[zij,Qx,zf8,zu4,zrG r ops l,zcU]
   rfl
theorem zpU (ops:Array Oper) (ord:List Nat) (l:List (Env×AH)) (p q:Nat):zkD P ops ord l p q=za6 P ops ord l p q:=by
 unfold zkD za6
 simp only[zij,Qx,zf8,zxA]
 rfl
theorem zua (r:Ex) (ops:Array Oper) (e:Env) (h:AH):zt8 P K r ops e h=zcb P K r ops e h:=by
 unfold zt8 zcb
 simp only[zrG,zpU]
 rfl
theorem zu5:∀n,exQ P K n=ex P K n
 | 0=>rfl
 | n+1=>by
   funext rd ks c e h
   change (match c with
    | .region _ ops false=>(match zxz P K (exQ P K n) ks ops ops.toList e h with | some (e',h')=>some (.normal,e',h') | none=>none)
    | .region _ ops true=>(match zt8 P K (exQ P K n) ops e h with | some (e',h')=>some (.normal,e',h') | none=>none)
    | c=>zaK P K (exQ P K n) rd ks c e h)=zaK P K (ex P K n) rd ks c e h
   simp only[zu5 n,zrF,zua]
   split <;> rfl
end
abbrev Bs:=List Nat
def zcW (ts:List Bs):Bs:=(ts.map λt=>byB 2 t.length ++ t).flatten
def zft (ts:List Bs):Bs:=byB 2 ts.length ++ zcW ts
theorem zxB (n:Nat):byB 2 n=[n % 256,n / 256 % 256]:=by grind[byB,List.range_succ]
theorem zrH (ts us:List Bs):zcW (ts ++ us)=zcW ts ++ zcW us:=by simp[zcW]
theorem zrI (t:Bs):zcW [t]=byB 2 t.length ++ t:=by simp[zcW]
theorem zjN (t:Bs) (ts:List Bs):zcW (t :: ts)=byB 2 t.length ++ t ++ zcW ts:=by rfl
def zg4:Nat->Bs->Option (List Bs)
 | 0,[]=>some []
 | 0,_ :: _=>none
 | k+1,x :: y :: r=>if x+256 * y<=r.length then (zg4 k (r.drop (x+256 * y))).map (r.take (x+256 * y) :: ·) else none
 | _+1,_=>none
def zdK:Bs->Option (List Bs)
 | x :: y :: r=>zg4 (x+256 * y) r
 | _=>none
theorem zjO:∀(ts:List Bs),(∀t∈ts,t.length < 65536)->zg4 ts.length (zcW ts)=some ts
 | [],_=>rfl
 | t :: ts,h=>by
   have ht:=h t QO
   have e:t.length % 256+256 * (t.length / 256 % 256)=t.length:=by omega
   rw[zjN,zxB]
   show (if t.length % 256+256 * (t.length / 256 % 256)<=(t ++ zcW ts).length then (zg4 ts.length ((t ++ zcW ts).drop (t.length % 256+256 * (t.length / 256 % 256)))).map ((t ++ zcW ts).take (t.length % 256+256 * (t.length / 256 % 256)) :: ·) else none)=_
   rw[e,if_pos (by simp),List.drop_left,List.take_left,zjO ts λu hu=>h u (QB _ hu)]
   rfl
theorem zeo {ts:List Bs} (hl:ts.length < 65536) (h:∀t∈ts,t.length < 65536):zdK (zft ts)=some ts:=by
 unfold zft
 rw[zxB]
 show zg4 (ts.length % 256+256 * (ts.length / 256 % 256)) (zcW ts)=some ts
 grind[zjO]
def zpV (s:ByteArray):Bs:=s.data.toList.map UInt8.toNat
def zcd (b:Bs):ByteArray:=⟨(b.map UInt8.ofNat).toArray⟩
theorem zcN (s:ByteArray):(zpV s).length=s.size:=by
 rw[zpV,QN,QZ]
 rfl
theorem zf9 {s:ByteArray} {x:Nat} (h:x∈zpV s):x < 256:=by grind[zpV,UInt8.toNat_lt]
theorem zrJ (s:ByteArray):zcd (zpV s)=s:=by
 obtain⟨d⟩:=s
 simp only[zcd,zpV,Jf]
 congr 1
 apply Array.toList_inj.1
 conv=>rhs; rw[<-List.map_id d.toList]
 exact QY λu _=>by simp
theorem zwi {b:Bs} (h:∀x∈b,x < 256):zpV (zcd b)=b:=by
 simp only[zcd,zpV,Jf]
 conv=>rhs; rw[<-List.map_id b]
 grind[QY,UInt8.ofNat,UInt8.toNat]
theorem zrK {a b:Bs} (ha:∀x∈a,x < 256) (hb:∀x∈b,x < 256) (h:zcd a=zcd b):a=b:=by grind[zwi]
structure OpP where
 kind:Int
 name:ByteArray
 to:ByteArray
 n:Int
 data:Bs
 keep:List Bool
def zdy (k:List Bool):Bs:=k.map λb=>if b then 1 else 0
theorem zdX (k:List Bool):(zdy k).length=k.length:=by simp[zdy]
theorem zhr {k:List Bool} {x:Nat} (h:x∈zdy k):x<=1:=by grind[zdy]
def zbV (b:Bs):List Bool:=b.map λx=>decide (0 < x)
theorem zub (k:List Bool):zbV (zdy k)=k:=by
 simp only[zbV,zdy,Jf]
 conv=>rhs; rw[<-List.map_id k]
 grind[QY]
def nB (n:Int):Nat:=if n < 0 then 65535 else n.toNat
def nOf (m:Nat):Int:=if m=65535 then -1 else m
def hN (k:Int):Prop:=(0<=k/\k<=3)\/k=10\/k=12
def zjl (k:Int):Prop:=0<=k/\k<=8
def hTo (k:Int):Prop:=k=5
def zjm (k:Int):Prop:=k=1\/k=12
def zjn (k:Int):Prop:=k=11
structure zgV (o:OpP):Prop where
 lo:0<=o.kind
 hi:o.kind<=12
 name:zjl o.kind\/o.name.size=0
 nameL:o.name.size<=60
 to:hTo o.kind\/o.to.size=0
 toL:o.to.size<=60
 n:hN o.kind\/o.n=0
 nLo:-1<=o.n
 nHi:o.n<=65534
 data:zjm o.kind\/o.data.length=0
 dataL:o.data.length<=129
 keep:zjn o.kind\/o.keep.length=0
 keepL:o.keep.length<=64
def zpW (o:OpP):Bs:=enc [1,2] [o.kind.toNat,nB o.n]
def znx (o:OpP):List Bs:=[zpW o,zpV o.name,zpV o.to,o.data,zdy o.keep]
def opB (o:OpP):Bs:=zft (znx o)
theorem zuc (o:OpP):zpW o=[o.kind.toNat % 256,nB o.n % 256,nB o.n / 256 % 256]:=by simp[zpW,enc,byB,List.range_succ]
theorem zdY (o:OpP):(zpW o).length=3:=by rfl
theorem zxC {n:Int} (h:n<=65534):nB n < 65536:=by grind[nB]
theorem zzD {n:Int} (h1:-1<=n) (h2:n<=65534):nOf (nB n)=n:=by grind[nB,nOf]
theorem zkG {o:OpP} (k:zgV o):∀t∈znx o,t.length < 65536:=by grind[znx,zdY,zcN,zgV.nameL,zgV.toL,zgV.dataL,zdX,zgV.keepL]
theorem zik:∀(ts:List Bs),(zcW ts).length=(ts.map λt=>2+t.length).sum
 | []=>rfl
 | t :: ts=>by rw[zjN,QE,List.sum_cons,Qs,Qs,zdx,zik ts]
theorem zmb (ts:List Bs):(zft ts).length=2+(ts.map λt=>2+t.length).sum:=by grind[zft,zdx,zik]
theorem zkH {o:OpP} (k:zgV o):(opB o).length<=400:=by
 rw[opB,zmb]
 simp only[znx,QE,Jk,List.sum_cons,List.sum_nil,zdY,zcN,zdX]
 grind[zgV.nameL,zgV.toL,zgV.dataL,zgV.keepL]
theorem zoK {ts:List Bs} (h:∀t∈ts,∀x∈t,x < 256):∀x∈zft ts,x < 256:=by grind[zft,zoF,zcW]
theorem zrL {o:OpP} (hd:∀x∈o.data,x < 256):∀x∈opB o,x < 256:=by
 refine zoK λt ht x hx=>?_
 simp only[znx,Qy,List.not_mem_nil,or_false] at ht
 rcases ht with rfl | rfl | rfl | rfl | rfl
 ·exact zoG _ _ hx
 ·exact zf9 hx
 ·exact zf9 hx
 ·grind
 ·have:=zhr hx; omega
def opOf (b:Bs):Option OpP:=match zdK b with
 | some [[x,y,z],nm,to,d,k]=>some ⟨x,zcd nm,zcd to,nOf (y+256 * z),d,zbV k⟩
 | _=>none
theorem zxD {o:OpP} (k:zgV o):opOf (opB o)=some o:=by
 unfold opOf
 rw[opB,zeo (by simp[znx]) (zkG k),znx,zuc]
 simp only[]
 have h1:=k.lo
 have h2:=k.hi
 have h3:=zxC k.nHi
 rw[zrJ,zrJ,zub,show nB o.n % 256+256 * (nB o.n / 256 % 256)=nB o.n by omega,zzD k.nLo k.nHi,show ((o.kind.toNat % 256:Nat):Int)=o.kind by omega]
structure zil where
 secs:Int
 ops:List OpP
structure zdZ (s:zil):Prop where
 lo:64<=s.secs
 hi:s.secs<=1024
 len:s.ops.length<=200
 ops:∀o∈s.ops,zgV o
def zg5 (s:zil):List Bs:=byB 2 s.secs.toNat :: s.ops.map opB
def ztj (s:zil):Bs:=zft (zg5 s)
theorem zkI {s:zil} (k:zdZ s):∀t∈zg5 s,t.length < 65536:=by
 intro t ht
 rcases Qy.1 ht with rfl | ht
 all_goals grind[zdx,zkH,zdZ.ops]
def opsOf:List Bs->Option (List OpP)
 | []=>some []
 | t :: ts=>match opOf t with
   | some o=>(opsOf ts).map (o :: ·)
   | none=>none
def zud (b:Bs):Option zil:=match zdK b with
 | some ([x,y] :: ts)=>(opsOf ts).map λos=>⟨(x+256 * y:Nat),os⟩
 | _=>none
theorem zrM:∀{os:List OpP},(∀o∈os,zgV o)->opsOf (os.map opB)=some os
 | [],_=>rfl
 | o :: os,h=>by
   rw[QE,opsOf,zxD (by grind)]
   rw[zrM λx hx=>h x (QB _ hx)]
   rfl
theorem zny {s:zil} (k:zdZ s):zud (ztj s)=some s:=by
 unfold zud
 have h1:=k.lo
 have h2:=k.hi
 rw[ztj,zeo (by grind[zdZ.len,zg5]) (zkI k),zg5,zxB]
 simp only[]
 rw[zrM k.ops]
 simp only[Ql]
 rw[show s.secs.toNat % 256+256 * (s.secs.toNat / 256 % 256)=s.secs.toNat by omega,Int.toNat_of_nonneg (by omega)]
def znz (b:Bs) (s:zil):Prop:=zdZ s/\ztj s=b
theorem zmc:∀{ts:List Bs} {os:List OpP},opsOf ts=some os->os.length=ts.length
 | [],os,h=>by cases h; rfl
 | t :: ts,os,h=>by
   unfold opsOf at h
   cases ho:opOf t with
   | none=>grind
   | some o=>
     rw[ho] at h
     cases hs:opsOf ts with
     | none=>grind
     | some us=>rw[hs] at h; cases h; rw[QF,QF,zmc hs]
theorem zmd:∀(ts:List Bs) (t:Bs),opsOf (ts ++ [t])=match opsOf ts,opOf t with | some os,some o=>some (os ++ [o]) | _,_=>none
 | [],t=>by grind[opsOf]
 | u :: ts,t=>by
   show (match opOf u with | some o=>(opsOf (ts ++ [t])).map (o :: ·) | none=>none)=match (match opOf u with | some o=>(opsOf ts).map (o :: ·) | none=>none),opOf t with | some os,some o=>some (os ++ [o]) | _,_=>none
   rw[zmd ts t]
   cases opOf u <;> cases opsOf ts <;> cases opOf t <;> rfl
end Go.Am
