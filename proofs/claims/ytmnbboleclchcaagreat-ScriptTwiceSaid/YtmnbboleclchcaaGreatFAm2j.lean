/-
  Texts of this proof, part 6. No condition.
-/
import Derived.Test.YtmnbboleclchcaaGreatFAm2h
set_option linter.unusedVariables false
set_option linter.unusedSimpArgs false
namespace Go.Am
section
variable {P:Program} {φ φ' : Fi} {h h' : AH} {w w' : World}
theorem zqC (r:R P φ h w) {t ty:TypeId} {x x' u:Value} {ats:Array TypeId} (hs:zjz P h t x=some u) (hx:VR φ x x') (hat:ats[0]?= some t):
 ∃u',(Builtin.len_ ats ty #[x']).run P w=.ok u' w/\VR φ u u':=by
 unfold zjz at hs
 split at hs
 ·rename_i s hu
  simp only[Qa] at hs
  subst hs
  cases hx
  exact⟨_,by simp[Builtin.len_,hat,zac hu,goInt],.int _ _⟩
 ·rename_i n e hu
  simp only[Qa] at hs
  subst hs
  exact⟨_,by simp[Builtin.len_,hat,zac hu,goInt],.int _ _⟩
 ·rename_i arr hu
  split at hs
  ·rename_i n e hu2
   simp only[Qa] at hs
   subst hs
   exact⟨_,by simp[Builtin.len_,hat,zac hu,zac hu2,goInt],.int _ _⟩
  grind
 ·rename_i e a n c hu
  simp only[Qa] at hs
  subst hs
  cases hx <;> exact⟨_,by simp[Builtin.len_,hat,zac hu,goInt],.int _ _⟩
 ·rename_i k e hu
  simp only[Qa] at hs
  subst hs
  cases hx
  exact⟨_,by simp[Builtin.len_,hat,zac hu,goInt],.int _ _⟩
 ·rename_i k e b hu
  split at hs
  ·rename_i es c hb
   simp only[Qa] at hs
   subst hs
   cases hx with
   | map hφ=>
     obtain⟨es',ho,he⟩:=r.map hb hφ
     have hg:=zbX (P:=P) ho (by simp)
     have hl:=he.length
     rw[hl]
     exact⟨_,by simp[Builtin.len_,hat,zac hu,hg,goInt],.int _ _⟩
  grind
 grind
theorem zqD {t ty:TypeId} {x x' u:Value} {ats:Array TypeId} (hs:zuU P t x=some u) (hx:VR φ x x') (hat:ats[0]?= some t):
 ∃u',(Builtin.cap_ ats ty #[x']).run P w=.ok u' w/\VR φ u u':=by
 unfold zuU at hs
 split at hs
 ·rename_i e a n c hu
  split at hs
  ·rename_i hc
   simp only[Qa] at hs
   subst hs
   cases hx <;> first | exact absurd hc (Q9 _) | exact⟨_,by simp[Builtin.cap_,hat,zac hu,goInt],.int _ _⟩
  grind
 grind
theorem zhP (mx:Bool) (k:IntKind):∀(a:Int) (l l' : List Value) {u:Value},zc5 mx k a l=some u->AR φ l l'->∀(w:World),
 (l'.foldlM (if mx then Builtin.max2 else Builtin.min2) (.int k a)).run P w=.ok u w/\VR φ u u
 | a,[],[],u,hs,_,w=>by
   simp only[zc5,Qa] at hs
   subst hs
   exact⟨by simp,.int _ _⟩
 | a,x :: l,x' :: l',u,hs,r,w=>by
   unfold zc5 at hs
   split at hs
   ·grind
   ·rename_i q1 j b rr q2
    obtain⟨rfl,rfl⟩:=q2
    obtain⟨h1,h2⟩:=r
    cases h1
    cases mx
    ·have ih:=zhP false k _ l l' hs h2 w
     grind[Builtin.min2]
    ·have ih:=zhP true k _ l l' hs h2 w
     grind[Builtin.max2]
   grind
theorem zgP {mx:Bool} {l l' : List Value} {u:Value} (hs:zdP mx l=some u) (r:AR φ l l') (ats:Array TypeId) (ty:TypeId) (w:World):
 ∃u',(if mx then Builtin.max_ ats ty l'.toArray else Builtin.min_ ats ty l'.toArray).run P w=.ok u' w/\VR φ u u':=by
 unfold zdP at hs
 split at hs
 ·rename_i k a rr
  cases l' with
  | nil=>exact r.elim
  | cons x' l'=>
    obtain⟨h1,h2⟩:=r
    cases h1
    have:=zhP (P:=P) mx k a rr l' hs h2 w
    grind[Builtin.min_,Builtin.max_]
 grind
def zbs (P:Program) (φ:Fi) (h:AH) (w:World) (S:Sem Next) (v:Value) (h' : AH):Prop:=
 ∃φ' v' w',((S.run P w=.ok (.value v') w')\/(S.run P w=.ok .skip w'/\v'= undef))/\VR φ' v v'/\Tn P φ h w φ' h' w'
theorem zfh.op {S:Sem Value} {v:Value} (e:zfh P φ h w S v h'):zbs P φ h w (do pure (.value (<-S))) v h':=by
 obtain⟨φ',v',w',h1,h2,h3⟩:=e
 exact⟨φ',v',w',.inl (by simp_all),h2,h3⟩
theorem zbs.same {S:Sem Value} {v v' : Value} (r:R P φ h w) (hr:S.run P w=.ok v' w) (hv:VR φ v v'):zbs P φ h w (do pure (.value (<-S))) v h:=(zfh.same r hr hv).op
theorem zbs.unit {S:Sem Unit} (hr:∃w',S.run P w=.ok () w'/\Tn P φ h w φ h' w'):zbs P φ h w (do S; pure .skip) undef h':=by
 obtain⟨w',h1,h2⟩:=hr
 exact⟨φ,undef,w',by simp_all,.junk _,h2⟩
theorem AR.map {e:Env} {a:Array Value} (k:zcK φ e a):∀(l:List Operand),AR φ (l.map (ev e)) (l.map (({ tmps:=a,defers:=[] }:Act).eval))
 | []=>trivial
 | x :: l=>⟨VR.eval k x,AR.map k l⟩
theorem PR.map {e:Env} {a:Array Value} (k:zcK φ e a):∀(l:List (Nat×Operand)),PR φ (l.map λp=>(p.1,ev e p.2)) (l.map λp=>(p.1,(({ tmps:=a,defers:=[] }:Act).eval) p.2))
 | []=>trivial
 | x :: l=>⟨rfl,VR.eval k x.2,PR.map k l⟩
theorem R.siter (r:R P φ h w) {b:Nat} {s:ByteArray} {p:Nat} {rc:Rec} (hb:h.get b=some (.siter s p)) (hφ:φ b=some rc):w.heap[rc.blk]?= some (.stringIter s p)/\rc.shift=0:=by
 obtain⟨o',ho,hr⟩:=r.obj b _ rc hb hφ
 cases o' <;> simp only[OR] at hr
 grind
theorem zxm {l:List Value} {x:Value} (h:AR φ [x] l):∃x',l=[x']/\VR φ x x':=by
 cases l with
 | nil=>exact h.elim
 | cons y l=>cases l with
   | nil=>exact⟨y,rfl,h.1⟩
   | cons _ _=>exact h.2.elim
theorem zy5 {l:List Value} {x y:Value} (h:AR φ [x,y] l):∃x' y',l=[x',y']/\VR φ x x'/\VR φ y y':=by
 cases l with
 | nil=>exact h.elim
 | cons z l=>
   obtain⟨y',rfl,h2⟩:=zxm h.2
   exact⟨z,y',rfl,h.1,h2⟩
theorem zkc (G:zdM P) (r:R P φ h w) {b:Builtin} {ats:Array TypeId} {args args' : List Value} {ty:TypeId} {consts:Array Bool} {v:Value} {h' : AH} (hs:zak P h b ats args=some (v,h')) (ha:AR φ args args')
 (hf:h.next < h'.next->φ h.next=none):zbs P φ h w (builtin b ats ty consts args'.toArray) v h':=by
 unfold zak at hs
 split at hs
 ·rename_i t x hat
  obtain⟨x',rfl,hx⟩:=zxm ha
  cases hl:zjz P h t x with
  | none=>grind
  | some u=>
    simp only[hl,Ql,Qa,Qf] at hs
    obtain⟨rfl,rfl⟩:=hs
    obtain⟨u',h1,h2⟩:=zqC (P:=P) r hl hx (ty:=ty) (ats:=ats) (by rw[<-Qx,hat]; rfl)
    exact zbs.same r h1 h2
 ·rename_i t x hat
  obtain⟨x',rfl,hx⟩:=zxm ha
  cases hl:zuU P t x with
  | none=>grind
  | some u=>
    simp only[hl,Ql,Qa,Qf] at hs
    obtain⟨rfl,rfl⟩:=hs
    obtain⟨u',h1,h2⟩:=zqD (P:=P) (w:=w) hl hx (ty:=ty) (ats:=ats) (by rw[<-Qx,hat]; rfl)
    exact zbs.same r h1 h2
 ·rename_i st xt s x hat
  obtain⟨s',x',rfl,hs',hx⟩:=zy5 ha
  have he:ats=#[st,xt]:=by grind
  subst he
  split at hs
  ·exact (zj7 (P:=P) G r hs hs' hx hf).op
  refine (zlg (P:=P) r hs ?_ hs' hx hf).op
  grind
 ·rename_i t rr d s hat
  obtain⟨d',s',rfl,hd,hs'⟩:=zy5 ha
  exact (zpk (P:=P) r hs hd hs' (by rw[<-Qx,hat]; rfl)).op
 ·rename_i t rr x hat
  obtain⟨x',rfl,hx⟩:=zxm ha
  exact (zm1 (P:=P) G r hs hx (by rw[<-Qx,hat]; rfl)).op
 ·rename_i t rr m k hat
  obtain⟨m',k',rfl,hm,hk⟩:=zy5 ha
  exact (zln (P:=P) r hs hm hk (by rw[<-Qx,hat]; rfl)).op
 ·obtain⟨u,hl,hq⟩:=Qk.1 hs
  obtain⟨rfl,rfl⟩:=hq
  obtain⟨u',h1,h2⟩:=zgP (P:=P) hl ha ats ty w
  exact zbs.same r (by grind) h2
 ·obtain⟨u,hl,hq⟩:=Qk.1 hs
  obtain⟨rfl,rfl⟩:=hq
  obtain⟨u',h1,h2⟩:=zgP (P:=P) hl ha ats ty w
  exact zbs.same r (by grind) h2
 grind
set_option maxHeartbeats 2000000 in
theorem zts (G:zdM P) (r:R P φ h w) {o:Oper} {e:Env} {a:Array Value} {v:Value} {h' : AH} (hs:aOp P o e h=some (v,h')) (k:zcK φ e a) (hf:h.next < h'.next->φ h.next=none):
 zbs P φ h w (execOp (({ tmps:=a,defers:=[] }:Act).eval) o) v h':=by
 obtain⟨dst,op,type,pos,after,guard⟩:=o
 cases op <;> simp only[aOp] at hs <;> try (simp at hs; done)
 case move x=>
  simp only[Qa,Qf] at hs
  obtain⟨rfl,rfl⟩:=hs
  exact⟨φ,_,w,.inl (by simp[execOp]),VR.eval k x,Tn.refl r⟩
 case assign x=>
  simp only[Qa,Qf] at hs
  obtain⟨rfl,rfl⟩:=hs
  exact⟨φ,_,w,.inl (by simp[execOp]),VR.eval k x,Tn.refl r⟩
 case pick c x y=>
  have hc:=VR.eval k c
  split at hs
  ·rename_i t hct
   rw[hct] at hc
   simp only[Qa,Qf] at hs
   obtain⟨rfl,rfl⟩:=hs
   cases hcv:({ tmps:=a,defers:=[] }:Act).eval c <;> rw[hcv] at hc <;> cases hc
   refine⟨φ,cond t (({ tmps:=a,defers:=[] }:Act).eval x) (({ tmps:=a,defers:=[] }:Act).eval y),w,.inl ?_,?_,Tn.refl r⟩
   ·cases t <;> simp[execOp,hcv,asBool]
   ·cases t
    ·exact VR.eval k y
    ·exact VR.eval k x
  ·simp at hs
 case alloc t=>
  split at hs
  ·rename_i z hz
   simp only[zuT,Qa,Qf] at hs
   obtain⟨rfl,rfl⟩:=hs
   exact (zmY G r hz (hf (by simp))).op
  ·simp at hs
 case box t x=>
  split at hs
  ·simp at hs
  ·rename_i hne
   simp only[zuT,Qa,Qf] at hs
   obtain⟨rfl,rfl⟩:=hs
   exact (zqy r (hf (by simp)) (VR.eval k x) (λxs e=>hne xs e)).op
 case build t ps=>
  cases hb:zbA P t (ps.map λp=>(p.1,ev e p.2)) with
  | none=>simp[hb] at hs
  | some u=>
    simp only[hb,Ql,Qa,Qf] at hs
    obtain⟨rfl,rfl⟩:=hs
    obtain⟨u',h1,h2⟩:=zmZ (φ:=φ) G hb (ps':=ps.map λp=>(p.1,(({ tmps:=a,defers:=[] }:Act).eval) p.2)) (by simpa using PR.map k ps.toList) w
    exact zbs.same r h1 h2
 case buildSlice t n ps=>
  exact (zg3 G r hs (ps':=ps.map λp=>(p.1,(({ tmps:=a,defers:=[] }:Act).eval) p.2)) (by simpa using PR.map k ps.toList) hf).op
 case load t x=>
  cases hb:zbL P h t (ev e x) with
  | none=>simp[hb] at hs
  | some u=>
    simp only[hb,Ql,Qa,Qf] at hs
    obtain⟨rfl,rfl⟩:=hs
    obtain⟨u',h1,h2⟩:=zjA r hb (VR.eval k x)
    exact zbs.same r h1 h2
 case store t x y=>
  cases hb:zbM P h t (ev e x) (ev e y) with
  | none=>simp[hb] at hs
  | some u=>
    simp only[hb,Ql,Qa,Qf] at hs
    obtain⟨rfl,rfl⟩:=hs
    exact zbs.unit (zmU r hb (VR.eval k x) (VR.eval k y))
 case nilCheck x=>
  have hx:=VR.eval k x
  split at hs
  ·rename_i ad hev
   simp only[Qa,Qf] at hs
   obtain⟨rfl,rfl⟩:=hs
   rw[hev] at hx
   generalize hcv:({ tmps:=a,defers:=[] }:Act).eval x=x' at hx
   refine⟨φ,x',w,.inl ?_,hx,Tn.refl r⟩
   cases hx
   simp[execOp,hcv]
  ·rename_i f a0 b0 hev
   simp only[Qa,Qf] at hs
   obtain⟨rfl,rfl⟩:=hs
   rw[hev] at hx
   generalize hcv:({ tmps:=a,defers:=[] }:Act).eval x=x' at hx
   refine⟨φ,x',w,.inl ?_,hx,Tn.refl r⟩
   obtain⟨fn',xs',ys',rfl,hfr,_⟩:=hx.funcAR
   cases hfr
   simp[execOp,hcv]
  ·rename_i f a0 b0 hev
   simp only[Qa,Qf] at hs
   obtain⟨rfl,rfl⟩:=hs
   rw[hev] at hx
   generalize hcv:({ tmps:=a,defers:=[] }:Act).eval x=x' at hx
   refine⟨φ,x',w,.inl ?_,hx,Tn.refl r⟩
   obtain⟨fn',xs',ys',rfl,hfr,_⟩:=hx.funcAR
   cases hfr
   simp[execOp,hcv]
  ·simp at hs
 case binOp bo t x y yt=>
  cases hb:zfV P bo t (ev e x) (ev e y) with
  | none=>simp[hb] at hs
  | some u=>
    simp only[hb,Ql,Qa,Qf] at hs
    obtain⟨rfl,rfl⟩:=hs
    obtain⟨u',h1,h2⟩:=zqB G hb (VR.eval k x) (VR.eval k y) x y w
    exact zbs.same r h1 h2
 case unOp uo t x=>
  cases hb:aUn uo (ev e x) with
  | none=>simp[hb] at hs
  | some u=>
    simp only[hb,Ql,Qa,Qf] at hs
    obtain⟨rfl,rfl⟩:=hs
    obtain⟨u',h1,h2⟩:=ztq (P:=P) hb (VR.eval k x) w
    exact zbs.same r h1 h2
 case convert s d x=>exact (zj8 r hs (VR.eval k x) hf).op
 case makeFunc fn a0 b0=>
  split at hs
  ·rename_i f
   simp only[Qa,Qf] at hs
   obtain⟨rfl,rfl⟩:=hs
   refine⟨φ,.func (.func f) (a0.map (({ tmps:=a,defers:=[] }:Act).eval)) (b0.map (({ tmps:=a,defers:=[] }:Act).eval)),w,.inl (by simp[execOp,Instr.makeFunc]),?_,Tn.refl r⟩
   exact AR.func (.func f) (by simpa using AR.map k a0.toList) (by simpa using AR.map k b0.toList)
  ·simp at hs
 case makeInterface t x=>
  split at hs
  ·simp at hs
  ·rename_i d hne hu
   simp only[Qa,Qf] at hs
   obtain⟨rfl,rfl⟩:=hs
   refine⟨φ,.iface t (({ tmps:=a,defers:=[] }:Act).eval x),w,.inl ?_,.iface (VR.eval k x),Tn.refl r⟩
   cases d <;> first | exact absurd rfl (hne _) | simp[execOp,Instr.makeInterface,zac hu]
  ·simp at hs
 case typeAssert x xt t ok=>
  cases ok with
  | true=>simp at hs
  | false=>
    simp only at hs
    have hx:=VR.eval k x
    split at hs
    ·simp at hs
    ·rename_i d u v0 hne hu hev
     rw[hev] at hx
     generalize hcv:({ tmps:=a,defers:=[] }:Act).eval x=x' at hx
     split at hs
     ·rename_i hut
      simp only[Qa,Qf] at hs
      obtain⟨rfl,rfl⟩:=hs
      cases hx with
      | iface hv=>
        rename_i v1
        refine⟨φ,v1,w,.inl ?_,hv,Tn.refl r⟩
        cases d <;> first | exact absurd rfl (hne _) | simp[execOp,Instr.typeAssert,zac hu,hcv,hut]
     ·simp at hs
    ·simp at hs
 case makeMap t q=>
  split at hs
  ·simp only[Qa,Qf] at hs
   obtain⟨rfl,rfl⟩:=hs
   have hfr:=hf (by simp)
   have ht:=Tn.alloc (P:=P) r (.map [] 0) (.map #[] 0) ⟨w.heap.size,0,0,0⟩ hfr rfl (λψ _ _=>⟨rfl,trivial⟩) 0
   refine⟨_,.map (some w.heap.size),_,.inl ?_,.map (r:=⟨w.heap.size,0,0,0⟩) (by simp),ht⟩
   simp[execOp,Instr.makeMap]
  ·simp at hs
 case makeSlice t l c=>exact (zhI G r hs (VR.eval k l) (VR.eval k c) hf).op
 case slice t x lo hi mx=>
  cases hb:zay P h t (ev e x) (lo.map (ev e)) (hi.map (ev e)) (mx.map (ev e)) with
  | none=>simp[hb] at hs
  | some u=>
    simp only[hb,Ql,Qa,Qf] at hs
    obtain⟨rfl,rfl⟩:=hs
    obtain⟨u',h1,h2⟩:=zmX r hb (VR.eval k x) (zfW.map k lo) (zfW.map k hi) (zfW.map k mx)
    exact zbs.same r h1 h2
 case fieldAddr s x f=>
  cases hb:zbI P s (ev e x) f with
  | none=>simp[hb] at hs
  | some u=>
    simp only[hb,Ql,Qa,Qf] at hs
    obtain⟨rfl,rfl⟩:=hs
    obtain⟨u',h1,h2⟩:=zhG (P:=P) hb (VR.eval k x) w
    exact zbs.same r h1 h2
 case field t x f=>
  cases hb:zeA P t (ev e x) f with
  | none=>simp[hb] at hs
  | some u=>
    simp only[hb,Ql,Qa,Qf] at hs
    obtain⟨rfl,rfl⟩:=hs
    obtain⟨u',h1,h2⟩:=zmW (P:=P) hb (VR.eval k x) w
    exact zbs.same r h1 h2
 case indexAddr t x i=>
  cases hb:za9 P t (ev e x) (ev e i) with
  | none=>simp[hb] at hs
  | some u=>
    simp only[hb,Ql,Qa,Qf] at hs
    obtain⟨rfl,rfl⟩:=hs
    obtain⟨u',h1,h2⟩:=zhH (P:=P) hb (VR.eval k x) (VR.eval k i) w
    exact zbs.same r h1 h2
 case index t x i=>
  cases hb:zdG P t (ev e x) (ev e i) with
  | none=>simp[hb] at hs
  | some u=>
    simp only[hb,Ql,Qa,Qf] at hs
    obtain⟨rfl,rfl⟩:=hs
    obtain⟨u',h1,h2⟩:=zmV (P:=P) hb (VR.eval k x) (VR.eval k i) w
    exact zbs.same r h1 h2
 case lookup t m q ok=>
  cases hb:zcr P h t (ev e m) (ev e q) ok with
  | none=>simp[hb] at hs
  | some u=>
    simp only[hb,Ql,Qa,Qf] at hs
    obtain⟨rfl,rfl⟩:=hs
    obtain⟨u',h1,h2⟩:=zlm G r hb (VR.eval k m) (VR.eval k q)
    exact zbs.same r h1 h2
 case mapUpdate t m q u=>
  cases hb:zba P h t (ev e m) (ev e q) (ev e u) with
  | none=>simp[hb] at hs
  | some h2=>
    simp only[hb,Ql,Qa,Qf] at hs
    obtain⟨rfl,rfl⟩:=hs
    exact zbs.unit (zhO r hb (VR.eval k m) (VR.eval k q) (VR.eval k u))
 case range t x=>
  have hx:=VR.eval k x
  split at hs
  ·rename_i s hu hev
   simp only[Qa,Qf] at hs
   obtain⟨rfl,rfl⟩:=hs
   rw[hev] at hx
   generalize hcv:({ tmps:=a,defers:=[] }:Act).eval x=x' at hx
   cases hx
   have hfr:=hf (by simp)
   have ht:=Tn.alloc (P:=P) r (.siter s 0) (.stringIter s 0) ⟨w.heap.size,0,0,0⟩ hfr rfl (λψ _ _=>⟨rfl,rfl,rfl⟩) 0
   refine⟨_,.pointer (some ⟨w.heap.size,0,none⟩),_,.inl ?_,.ptr (r:=⟨w.heap.size,0,0,0⟩) (by simp),ht⟩
   simp[execOp,Instr.range,zac hu,hcv]
  ·simp at hs
 case next it st=>
  cases st <;> simp only at hs
  ·simp at hs
  ·have hx:=VR.eval k it
   split at hs
   ·rename_i b hev
    rw[hev] at hx
    generalize hcv:({ tmps:=a,defers:=[] }:Act).eval it=x' at hx
    split at hs
    ·rename_i s p hb
     cases hx with
     | ptr hφ=>
       rename_i rc
       obtain⟨ho,hsh⟩:=r.siter hb hφ
       have hg:=zbX (P:=P) ho (by intro _ _ _ q; cases q)
       have hp0:(⟨rc.blk,rc.shift+0,none⟩:Addr)=⟨rc.blk,0,none⟩:=by rw[hsh]
       rw[hp0] at hcv
       split at hs
       ·rename_i hlt
        simp only[Qa,Qf] at hs
        obtain⟨rfl,rfl⟩:=hs
        have hput:=Tn.put (P:=P) r hb hφ rfl (o2:=.siter s (p+(Utf8.decode s p).2)) (O2:=.stringIter s (p+(Utf8.decode s p).2)) ⟨rfl,rfl,hsh⟩ 0
        have hset:=zbY (P:=P) (w:=w) (o2:=.stringIter s (p+(Utf8.decode s p).2)) ho (by intro _ _ _ q; cases q)
        refine⟨φ,.tuple #[.bool true,goInt p,.int .i32 (Utf8.decode s p).1],_,.inl ?_,?_,hput⟩
        ·simp[execOp,Instr.next,hcv,hg,hlt,hset]
        ·exact AR.tuple ⟨.bool _,.int _ _,.int _ _,trivial⟩
       ·rename_i hlt
        simp only[Qa,Qf] at hs
        obtain⟨rfl,rfl⟩:=hs
        refine⟨φ,.tuple #[.bool false],w,.inl ?_,?_,Tn.refl r⟩
        ·simp[execOp,Instr.next,hcv,hg,hlt]
        ·exact AR.tuple ⟨.bool _,trivial⟩
    ·simp at hs
   ·simp at hs
 case extract t i=>
  have hx:=VR.eval k t
  split at hs
  ·rename_i vs hev
   rw[hev] at hx
   generalize hcv:({ tmps:=a,defers:=[] }:Act).eval t=x' at hx
   cases hsz:isSkip (.tuple vs) with
   | true=>rw[hsz] at hs; simp at hs
   | false=>
   rw[hsz,cond_false] at hs
   cases hb:vs[i]? with
   | none=>simp[hb] at hs
   | some u=>
     simp only[hb,Ql,Qa,Qf] at hs
     obtain⟨rfl,rfl⟩:=hs
     rcases hx.tupleAR with rfl | hz | ⟨vs',rfl,har⟩
     ·simp at hb
     ·rw[hz] at hsz; exact Bool.noConfusion hsz
     ·obtain⟨u',hu',hr⟩:=har.at i u (by simpa using hb)
      have:vs'[i]?= some u':=by simpa using hu'
      exact zbs.same r (by simp[Instr.extract,hcv,this]) hr
  ·simp at hs
 case call c=>
  obtain⟨callee,args,ats⟩:=c
  cases callee <;> simp only at hs <;> try (simp at hs; done)
  case builtin b=>
   have hb:=λcs=>zkc (P:=P) G r (ty:=type) (consts:=cs) hs (AR.map k args.toList) hf
   have e1:(args.toList.map (({ tmps:=a,defers:=[] }:Act).eval)).toArray=args.map (({ tmps:=a,defers:=[] }:Act).eval):=Array.ext' (by simp)
   have e2:execOp (({ tmps:=a,defers:=[] }:Act).eval) ⟨dst,.call ⟨.builtin b,args,ats⟩,type,pos,after,guard⟩=builtin b ats type (args.map fun | .const _=>true | _=>false) (args.map (({ tmps:=a,defers:=[] }:Act).eval)):=rfl
   rw[e2,<-e1]
   exact hb _
end
section
variable {P:Program} {φ φ' : Fi} {h h' : AH} {w w' : World}
abbrev rho (a:Array Value):Operand->Value:=({ tmps:=a,defers:=[] }:Act).eval
def At (b:Frame) (a:Array Value) (ds:List Deferred) (todo:List Item):Frame:={ b with tmps:=a,defers:=ds,todo:=todo,mode:=.run }
theorem zvH (b:Frame) (a:Array Value) (ds:List Deferred) (todo:List Item) (x:Operand):(At b a ds todo).eval x=rho a x:=by rfl
theorem zor (b:Frame) (a:Array Value) (ds:List Deferred) (todo:List Item):(At b a ds todo).eval=rho a:=by rfl
def zm2 (a:Array Value) (d:Option Tmp) (v:Value):Array Value:=match d with | some d=>a.setIfInBounds d v | none=>a
theorem zbD (a:Array Value) (d:Option Tmp) (v:Value):(zm2 a d v).size=a.size:=by cases d <;> simp[zm2]
section
variable {b:Frame} {a:Array Value} {ds:List Deferred} {k:List Item} {cs:List Frame}
theorem zvI:step P (lone (At b a ds (.code .skip :: k)) cs w)=.next (lone (At b a ds k) cs w):=by rfl
theorem ztt {l:Nat}:step P (lone (At b a ds (.code (.label l) :: k)) cs w)=.next (lone (At b a ds k) cs w):=by rfl
theorem zpo {id:Nat}:step P (lone (At b a ds (.inBlock id :: k)) cs w)=.next (lone (At b a ds k) cs w):=by rfl
theorem zpp {c:Code}:step P (lone (At b a ds (.inScope c :: k)) cs w)=.next (lone (At b a ds k) cs w):=by rfl
theorem zqE {x y:Code}:step P (lone (At b a ds (.code (.seq x y) :: k)) cs w)=.next (lone (At b a ds (.code x :: .code y :: k)) cs w):=by rfl
theorem zqF {c:Operand} {x y:Code} {t:Bool} (hc:rho a c=.bool t):
 step P (lone (At b a ds (.code (.cond c x y) :: k)) cs w)=.next (lone (At b a ds (.code (if t then x else y) :: k)) cs w):=
 step_lone_go (by
  have:=zvH b a ds (.code (.cond c x y) :: k) c
  simp only[At] at this
  simp[stepG,stepG.exec,At,this,hc])
theorem zhh {id:Nat} {c:Code}:step P (lone (At b a ds (.code (.block id c) :: k)) cs w)=.next (lone (At b a ds (.code c :: .inBlock id :: k)) cs w):=by rfl
theorem zfY {c:Code}:step P (lone (At b a ds (.code (.loop c) :: k)) cs w)=.next (lone (At b a ds (.code c :: .inLoop c :: k)) cs w):=by rfl
theorem zhQ {c:Code}:step P (lone (At b a ds (.inLoop c :: k)) cs w)=.next (lone (At b a ds (.code c :: .inLoop c :: k)) cs w):=by rfl
theorem zkd {c:Code}:step P (lone (At b a ds (.code (.scope c) :: k)) cs w)=.next (lone (At b a ds (.code c :: .inScope c :: k)) cs w):=by rfl
theorem zvJ {id:Nat} {k' : List Item} (he:exitTo id k=some k'):step P (lone (At b a ds (.code (.exit id) :: k)) cs w)=.next (lone (At b a ds k') cs w):=
 step_lone_go (by simp[stepG,stepG.exec,At,he])
theorem zqG {id:Nat} {ops:Array Oper}:step P (lone (At b a ds (.code (.region id ops false) :: k)) cs w)=.next (lone (At b a ds (.inRegion ops (List.range ops.size) :: k)) cs w):=
 by rfl
theorem zvK {id:Nat} {ops:Array Oper}:step P (lone (At b a ds (.code (.region id ops true) :: k)) cs w) =
 .next (lone (At b a ds (.inRegion ops (Region.schedule (P.follows .mixedOrders) ops (w.tape w.drawn (.order b.fn id))) :: k)) cs { w with drawn:=w.drawn+1 }):=
 by rfl
theorem zuV {ops:Array Oper}:step P (lone (At b a ds (.inRegion ops [] :: k)) cs w)=.next (lone (At b a ds k) cs w):=by rfl
theorem zdR (b:Frame) (a:Array Value) (ds:List Deferred) (ops:Array Oper) (i:Nat) (rest:List Nat) (k:List Item) (v:Value):
 (At b a ds (.inRegion ops (i :: rest) :: k)).finish v=At b (zm2 a ((ops[i]?).bind (·.dst)) v) ds (.inRegion ops rest :: k):=by rfl
theorem zlo {ops:Array Oper} {i:Nat} {rest:List Nat} {o:Oper} (ho:ops[i]?= some o) (hw:Region.wanted o (yielded ops a)=false):
 step P (lone (At b a ds (.inRegion ops (i :: rest) :: k)) cs w)=.next (lone (At b (zm2 a o.dst undef) ds (.inRegion ops rest :: k)) cs w):=by
 have e:At b (zm2 a o.dst undef) ds (.inRegion ops rest :: k)=(At b a ds (.inRegion ops (i :: rest) :: k)).finish undef:=by grind[zdR]
 rw[e]
 exact step_lone_go (by simp[stepG,stepG.exec,At,ho,hw])
theorem zhi {ops:Array Oper} {i:Nat} {rest:List Nat} {o:Oper} (ho:ops[i]?= some o) (hw:Region.wanted o (yielded ops a)=true) (hnd:∀c,o.op≠.defer c):
 stepG P true { frame:=At b a ds (.inRegion ops (i :: rest) :: k),callers:=cs,status:=.running,dying:=none } w =
  stepG.apply P true (At b a ds (.inRegion ops (i :: rest) :: k)) cs none (execOp (rho a) o) w:=by
 have he:=zor b a ds (.inRegion ops (i :: rest) :: k)
 grind[At,stepG,stepG.exec,stepG.oper,Frame.oper?]
theorem zuW {ops:Array Oper} {i:Nat} {rest:List Nat} {o:Oper} {v:Value} (ho:ops[i]?= some o) (hw:Region.wanted o (yielded ops a)=true) (hnd:∀c,o.op≠.defer c) (hr:(execOp (rho a) o).run P w=.ok (.value v) w'):
 step P (lone (At b a ds (.inRegion ops (i :: rest) :: k)) cs w)=.next (lone (At b (zm2 a o.dst v) ds (.inRegion ops rest :: k)) cs w'):=by
 have e:At b (zm2 a o.dst v) ds (.inRegion ops rest :: k)=(At b a ds (.inRegion ops (i :: rest) :: k)).finish v:=by grind[zdR]
 rw[e]
 exact step_lone_go (by rw[zhi ho hw hnd]; simp[stepG.apply,hr])
theorem zvL {ops:Array Oper} {i:Nat} {rest:List Nat} {o:Oper} (ho:ops[i]?= some o) (hw:Region.wanted o (yielded ops a)=true) (hnd:∀c,o.op≠.defer c) (hr:(execOp (rho a) o).run P w=.ok .skip w'):
 step P (lone (At b a ds (.inRegion ops (i :: rest) :: k)) cs w)=.next (lone (At b (zm2 a o.dst undef) ds (.inRegion ops rest :: k)) cs w'):=by
 have e:At b (zm2 a o.dst undef) ds (.inRegion ops rest :: k)=(At b a ds (.inRegion ops (i :: rest) :: k)).finish undef:=by grind[zdR]
 rw[e]
 exact step_lone_go (by rw[zhi ho hw hnd]; simp[stepG.apply,hr])
theorem ztu {ops:Array Oper} {i:Nat} {rest:List Nat} {o:Oper} {f:FuncId} {args:Array Value} (ho:ops[i]?= some o) (hw:Region.wanted o (yielded ops a)=true) (hnd:∀c,o.op≠.defer c) (hr:(execOp (rho a) o).run P w=.ok (.enter f args) w'):
 step P (lone (At b a ds (.inRegion ops (i :: rest) :: k)) cs w)=.next (lone (Frame.enter P f args .normal) (At b a ds (.inRegion ops (i :: rest) :: k) :: cs) w'):=
 step_lone_go (by rw[zhi ho hw hnd]; simp[stepG.apply,hr,At])
theorem ztv {ops:Array Oper} {i:Nat} {rest:List Nat} {o:Oper} {l:Nat} {f:FuncId} {tmps:Array Value} {assign body:Code} (ho:ops[i]?= some o) (hw:Region.wanted o (yielded ops a)=true) (hnd:∀c,o.op≠.defer c)
 (hr:(execOp (rho a) o).run P w=.ok (.round l f tmps assign body) w'):
 step P (lone (At b a ds (.inRegion ops (i :: rest) :: k)) cs w)=.next (lone (Frame.round l f tmps assign body .normal) (At b a ds (.inRegion ops (i :: rest) :: k) :: cs) w'):=
 step_lone_go (by rw[zhi ho hw hnd]; simp[stepG.apply,hr,At])
end
theorem zcK.put {e:Env} {a:Array Value} (k:zcK φ e a) {d:Tmp} {v v' : Value} (hd:d < a.size) (hv:VR φ v v'):zcK φ (e.set d v) (a.setIfInBounds d v'):=by
 intro i
 rw[Tr.get_set]
 by_cases hi:i=d
 ·simp_all
 ·rw[if_neg hi]
  have:(a.setIfInBounds d v').getD i undef=a.getD i undef:=by
   simp[Array.getElem?_setIfInBounds_ne (Ne.symm hi)]
  rw[this]
  exact k i
theorem zcK.putO {e:Env} {a:Array Value} (k:zcK φ e a) {d:Option Tmp} {v v' : Value} (hd:∀t,d=some t->t < a.size) (hv:VR φ v v'):zcK φ (putO e d v) (zm2 a d v'):=by
 cases d with
 | none=>exact k
 | some t=>exact k.put (hd t rfl) hv
theorem zfj {ops:Array Oper} {o:Oper} {e:Env} {a:Array Value} {t:Bool} (k:zcK φ e a) (hw:zaI ops o e=some t):Region.wanted o (yielded ops a)=t:=by
 unfold zaI at hw
 unfold Region.wanted
 split at hw
 ·grind
 ·rename_i j want hg
  split at hw
  ·rename_i d hd
   split at hw
   ·rename_i bb hb
    simp only[Qa] at hw
    subst hw
    have hv:=k d
    rw[hb] at hv
    have hlt:d < a.size:=by
     rcases QK d a.size with q | q
     ·omega
     ·rw[show a.getD d undef=undef by grind] at hv
      cases hv
    have hval:a.getD d undef=.bool bb:=by
     generalize a.getD d undef=u at hv
     cases hv
     rfl
    have hget:a[d]?= some (.bool bb):=by simp_all
    grind[yielded]
   ·rename_i v hnb hb
    cases hsk:isSkip v with
    | false=>grind
    | true=>
      rw[hsk] at hw
      simp only[cond_true,Qa] at hw
      have hv:=k d
      rw[hb] at hv
      have hne:∀bb,a[d]?≠some (.bool bb):=by
       intro bb hab
       have:a.getD d undef=.bool bb:=by simp_all
       rw[this] at hv
       cases v with
       | tuple xs=>cases hv; grind[isSkip]
       | _=>simp[isSkip] at hsk
      grind[yielded]
   grind
  grind
theorem zbN {b off:Nat} {vs:List Value} (hs:zap h b off vs=some h'):h'.next=h.next:=by
 unfold zap at hs
 split at hs
 ·split at hs
  ·simp only[Qa] at hs; subst hs; rfl
  grind
 grind
theorem zm3 {st:TypeId} {xi:Bool} {s x v:Value} (hs:zaM P h st xi s x=some (v,h')):h.next<=h'.next:=by
 unfold zaM at hs
 repeat' split at hs
 all_goals first | (simp at hs; done) | skip
 all_goals (simp only[Qa,Qf] at hs; obtain⟨_,rfl⟩:=hs)
 all_goals first
  | exact Qc _
  | (simp; done)
  | (exact by grind[zbN])
theorem zqH {st:TypeId} {d s v:Value} (hs:zc4 P h st d s=some (v,h')):h.next<=h'.next:=by
 unfold zc4 at hs
 repeat' split at hs
 all_goals first | (simp at hs; done) | skip
 all_goals grind[zbN]
theorem zpq {t:TypeId} {x v:Value} (hs:ze9 P h t x=some (v,h')):h.next<=h'.next:=by
 unfold ze9 at hs
 grind[zbN]
theorem zm4 {t:TypeId} {m k v:Value} (hs:zeT P h t m k=some (v,h')):h.next<=h'.next:=by
 unfold zeT at hs
 repeat' split at hs
 all_goals first | (simp at hs; done) | skip
 all_goals (simp only[Qa,Qf] at hs; obtain⟨_,rfl⟩:=hs)
 all_goals simp
theorem zm5 {t:TypeId} {m k v:Value} (hs:zba P h t m k v=some h'):h.next<=h'.next:=by
 unfold zba at hs
 repeat' split at hs
 all_goals first | (simp at hs; done) | skip
 all_goals (simp only[Qa] at hs; subst hs)
 all_goals simp
theorem zjg {t:TypeId} {l c v:Value} (hs:zaX P h t l c=some (v,h')):h.next<=h'.next:=by
 unfold zaX at hs
 repeat' split at hs
 all_goals first | (simp at hs; done) | skip
 all_goals (simp only[Qa,Qf] at hs; obtain⟨_,rfl⟩:=hs)
 simp
theorem zhR {t:TypeId} {n:Nat} {ps:Array (Nat×Value)} {v:Value} (hs:zar P h t n ps=some (v,h')):h.next<=h'.next:=by
 unfold zar at hs
 repeat' split at hs
 all_goals first | (simp at hs; done) | skip
 all_goals (simp only[Qa,Qf] at hs; obtain⟨_,rfl⟩:=hs)
 simp
theorem zlp {s d:TypeId} {x v:Value} (hs:zav P h s d x=some (v,h')):h.next<=h'.next:=by
 unfold zav at hs
 repeat' split at hs
 all_goals first | (simp at hs; done) | skip
 all_goals (simp only[Qa,Qf] at hs; obtain⟨_,rfl⟩:=hs)
 all_goals simp
theorem zpr {t:TypeId} {a v:Value} (hs:zbM P h t a v=some h'):h.next<=h'.next:=by
 unfold zbM at hs
 grind[zbN]
theorem zlq {b:Builtin} {ats:Array TypeId} {args:List Value} {v:Value} (hs:zak P h b ats args=some (v,h')):h.next<=h'.next:=by
 unfold zak at hs
 split at hs
 ·grind[Qk]
 ·grind[Qk]
 ·split at hs
  ·unfold zeh at hs
   repeat' split at hs
   all_goals first | (simp at hs; done) | (obtain⟨_,rfl⟩:=hs; simp)
  ·exact zm3 hs
 ·exact zqH hs
 ·exact zpq hs
 ·exact zm4 hs
 all_goals grind[Qk]
theorem zvM {o:Oper} {e:Env} {v:Value} (hs:aOp P o e h=some (v,h')):h.next<=h'.next:=by
 obtain⟨dst,op,type,pos,after,guard⟩:=o
 cases op <;> simp only[aOp] at hs
 case typeAssert x xt t ok=>grind
 case makeInterface t x=>grind
 all_goals first
  | (simp at hs; done)
  | (obtain⟨_,_,hq⟩:=Qk.1 hs; cases hq; exact Qc _)
  | (obtain⟨_,rfl⟩:=hs; exact Qc _)
  | exact zjg hs
  | exact zhR hs
  | exact zlp hs
  | (obtain⟨h2,hst,hq⟩:=Qk.1 hs; cases hq; exact zpr hst)
  | (obtain⟨h2,hst,hq⟩:=Qk.1 hs; cases hq; exact zm5 hst)
  | skip
 case call c=>
  obtain⟨callee,args,ats⟩:=c
  cases callee <;> simp only at hs <;> first | grind | exact zlq hs
 case next it st=>
  cases st <;> simp only at hs
  ·grind
  ·repeat' split at hs
   all_goals first
    | (simp at hs; done)
    | (obtain⟨_,rfl⟩:=hs; simp)
 all_goals
  repeat' split at hs
 all_goals first
  | (simp at hs; done)
  | (obtain⟨_,rfl⟩:=hs; simp; done)
  | (obtain⟨_,_,hq⟩:=Qk.1 hs; cases hq; exact Qc _)
  | (obtain⟨_,hs⟩:=zhE hs; obtain⟨_,_,hq⟩:=Qk.1 hs; cases hq; exact Qc _)
theorem zqI (v:Value):(killV h v).next=h.next:=by unfold killV; split <;> rfl
theorem zgQ (ks:List Tmp) (d:Option Tmp) (e:Env):(preKill ks d e h).next=h.next:=by
 unfold preKill
 grind[zqI]
end
end Go.Am
