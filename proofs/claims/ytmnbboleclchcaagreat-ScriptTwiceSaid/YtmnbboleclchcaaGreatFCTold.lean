/-
  Texts of this proof, part 53. No condition.
-/
import Derived.Test.YtmnbboleclchcaaGreatFTcTw
set_option linter.unusedVariables false
set_option linter.unusedSimpArgs false
set_option maxRecDepth 100000
namespace Go.Am
open Go.Proofs
noncomputable section
theorem zhB {P:Program} {K:Xs} {fa:FuncId} {g:List Value->AH->Option (Value×AH)} (hk:K fa=none)
 (T:∀args h v h',(∀b o,h.get b=some o->b < h.next)->g args h=some (v,h')->Wf P K fa args h (λv1 h1=>v1=v/\(∀b o,h'.get b=some o->h1.get b=some o)/\h1.next<=h'.next)):zpT P K fa g:=by
 intro args h v h' hwf hg
 obtain⟨n,v1,h1,h2,rfl,h3,h4⟩:=T args h v h' hwf hg
 grind[zel]
theorem zla {n off:Nat} {cs l:List Value} (h:zii n (zih off cs)=some l):l.length=n/\∀t,t < n->cs[off+t]?= l[t]?:=by grind[zkE,zen]
theorem zgI {α:Type} {b:Bool} {x:Option α} {y:α} (h:cond b x none=some y):b=true/\x=some y:=by grind
def zoi (x:Nat):Nat:=cond (Nat.beq (Nat.land x 1) 1) (Nat.xor (Nat.shiftRight x 1) 2197175160) (Nat.shiftRight x 1)
def zvB:Nat->Nat->Nat
 | 0,x=>x
 | k+1,x=>zvB k (zoi x)
def zmQ:List Value->Nat->Option Nat
 | [],x=>some x
 | .int .u8 (.ofNat c) :: r,x=>cond (Nat.blt c 256) (zmQ r (zvB 8 (Nat.xor x c))) none
 | _,_=>none
def zw9:List Value->AH->Option (Value×AH)
 | [.int .u32 (.ofNat s),.slice (some ⟨b,off,none⟩) n c],h=>
   match h.get b with
   | some (.cells cs _ _)=>
     match zii n (zih off cs) with
     | some l=>cond (Nat.blt s 4294967296 && Nat.blt n 9223372036854775807) (match zmQ l (Nat.xor s 4294967295) with | some r=>some (.int .u32 (.ofNat (Nat.xor r 4294967295)),h) | none=>none) none
     | none=>none
   | _=>none
 | _,_=>none
theorem ztd {x:Nat} (hx:x < 4294967296):IntKind.u32.wrap (x:Int)=(x:Int):=by grind[IntKind.wrap,IntKind.bits,IntKind.signed]
theorem zuS {x y:Nat} (hx:x < 4294967296) (hy:y < 4294967296):IntKind.u32.wrap (BitVec.ofInt IntKind.u32.bits (x:Int) &&& BitVec.ofInt IntKind.u32.bits (y:Int)).toNat=((x &&& y:Nat):Int):=by grind[IntKind.bits,ztd]
theorem zpe {x y:Nat} (hx:x < 4294967296) (hy:y < 4294967296):IntKind.u32.wrap (BitVec.ofInt IntKind.u32.bits (x:Int) ^^^ BitVec.ofInt IntKind.u32.bits (y:Int)).toNat=((x ^^^ y:Nat):Int):=by grind[IntKind.bits,ztd]
theorem zqp {x:Nat} (hx:x < 4294967296):zgK .and .u32 (x:Int) 1=some (.int .u32 ((x &&& 1:Nat):Int)):=congrArg (λz=>some (Value.int .u32 z)) (by grind[zuS])
theorem zj4 {x y:Nat} (hx:x < 4294967296) (hy:y < 4294967296):zgK .xor .u32 (x:Int) (y:Int)=some (.int .u32 ((x ^^^ y:Nat):Int)):=congrArg (λz=>some (Value.int .u32 z)) (zpe hx hy)
theorem zyZ {x:Nat}:zaV .shr .u32 (x:Int) 1=some (.int .u32 ((x >>> 1:Nat):Int)):=by grind[zaV,IntKind.bits,Nat.shiftRight_eq_div_pow]
theorem zBV {x:Nat} (hx:x < 4294967296):aUn .xor (.int .u32 (x:Int))=some (.int .u32 ((x ^^^ 4294967295:Nat):Int)):=by
 have:=zpe (x:=4294967295) (by omega) hx
 rw[Nat.xor_comm] at this
 exact congrArg (λz=>some (Value.int .u32 z)) this
theorem zAB {K:Xs} (hk:K 221=none):zpT Tryz.prog K 221 zw9:=by
 refine zhB hk λargs h v h' hwf hg=>?_
 unfold zw9 at hg
 split at hg
 rotate_left
 ·grind
 rename_i s b off n c
 split at hg
 rotate_left
 ·grind
 split at hg
 rotate_left
 ·grind
 rename_i l hl
 obtain⟨hc,hg⟩:=zgI hg
 simp only[Qd,Q5] at hc
 split at hg <;> cases hg
 rename_i r hr
 obtain⟨hll,hat⟩:=zla hl
 refine zoh hk _ _ _ _ _ _ ⟨_,zBV hc.1,λa l' k g=>g=h/\∃t x:Nat,l'= t/\t<=n/\k=n - t/\a=x/\x < 4294967296/\zmQ (l.drop t) x=some r,⟨n,rfl,0,s ^^^ 4294967295,rfl,Qg _,rfl,rfl,Nat.xor_lt_two_pow (n:=32) hc.1 (by omega),hr⟩,?_⟩
 rintro k g a l' ⟨rfl,t,x,rfl,ht,rfl,rfl,hx,hby⟩
 refine⟨λz=>zaa ⟨by omega,z,?_⟩,λz=>⟨_,zBV hx,?_⟩⟩
 ·obtain⟨cc,hcc,hlt,hrest⟩:∃cc:Nat,l[t]?= some (.int .u8 cc)/\cc < 256/\zmQ (l.drop (t+1)) (zvB 8 (x ^^^ cc))=some r:=by
   have hlt:t < l.length:=by omega
   rw[QU hlt] at hby
   unfold zmQ at hby
   split at hby
   ·grind
   ·rename_i he
    injection he with he1 he2
    subst he2
    obtain⟨p1,p2⟩:=zgI hby
    exact⟨_,by grind,by simp_all,p2⟩
   grind
  have hxc:x ^^^ cc < 4294967296:=Nat.xor_lt_two_pow (n:=32) hx (by omega)
  refine⟨cc,by grind[zdJ,Qh],λq hq=>?_⟩
  rw[ztd (by omega)] at hq
  refine⟨_,by grind[zj4],λa m k u=>u=g/\∃y w:Nat,a=y/\m=w/\w<=8/\k=8 - w/\y < 4294967296/\zvB (8 - w) y=zvB 8 (x ^^^ cc),⟨8,rfl,_,0,rfl,rfl,by omega,rfl,hxc,rfl⟩,?_⟩
  rintro k' u a' m' ⟨rfl,y,w,rfl,rfl,hw,rfl,hy,hcr⟩
  refine⟨λz'=>⟨_,zqp hy,_,zyZ,λe1=>⟨_,zj4 (y:=2197175160) ?_ (by omega),λaa haa=>?_⟩,λe1 ac hac=>?_⟩,λz' ad had=>?_⟩
  ·omega
  ·have haa:=zaT haa (by omega) (by omega)
   refine⟨_,by omega,rfl,_,w+1,rfl,haa,by omega,rfl,Nat.xor_lt_two_pow (n:=32) (by omega) (by omega),?_⟩
   rw[<-hcr,show 8 - w=8 - (w+1)+1 by omega,zvB,zoi,ztn (n:=Nat.land y 1) (m:=1) (by exact_mod_cast e1)]
   rfl
  ·have hac:=zaT hac (by omega) (by omega)
   refine⟨_,by omega,rfl,_,w+1,rfl,hac,by omega,rfl,by omega,?_⟩
   rw[<-hcr,show 8 - w=8 - (w+1)+1 by omega,zvB,zoi,zjf (n:=Nat.land y 1) (m:=1) (λq=>e1 (by exact_mod_cast q))]
   rfl
  ·have had:=zaT had (by omega) (by omega)
   have:w=8:=by omega
   exact⟨_,by omega,rfl,t+1,_,had,by omega,rfl,rfl,hy,by grind[zvB]⟩
 ·have:t=n:=by omega
  rw[Q6 (by omega)] at hby
  cases hby
  simp
def zcT (acc:List (Nat×Nat)) (n:Nat):List (Nat×Nat):=
 match acc with
 | (s,l) :: r=>cond (Nat.beq (s+l) n) ((s,l+1) :: r) ((n,1) :: (s,l) :: r)
 | []=>[(n,1)]
def spM (p:Nat->Bool):Nat->List (Nat×Nat)
 | 0=>[]
 | n+1=>Bool.rec (spM p n) (zcT (spM p n) n) (p n)
def zqu:List (Nat×Nat)->List Value
 | []=>[]
 | (s,l) :: r=>zqu r ++ [.int .i64 (.ofNat s),.int .i64 (.ofNat l)]
theorem zlb:∀acc,(zqu acc).length=2 * acc.length
 | []=>rfl
 | (s,l) :: r=>by simp[zqu,zlb r]; omega
theorem zte (p:Nat->Bool):∀n,(spM p n).length<=n/\∀s l r,spM p n=(s,l) :: r->s+l<=n
 | 0=>⟨Qc _,λ_ _ _ e=>by cases e⟩
 | n+1=>by
   obtain⟨h1,h2⟩:=zte p n
   simp only[spM]
   cases p n with
   | false=>grind
   | true=>cases hs:spM p n<;>grind[zcT]
structure Gx (h:AH) (el sz m:Nat) (cs:List Value) (p:Option Addr) (n c:Nat) (g:AH):Prop where
 old:Old h g
 next:g.next=h.next+2 * m
 len:cs.length=m * sz
 nm:n=m
 at0:m=0->p=none/\c=0
 at1:0 < m->p=some ⟨h.next+2 * m - 1,0,none⟩/\c=zai/\g.get (h.next+2 * m - 1)=some (.cells cs el false)
theorem Gx.nil (h:AH) (el sz:Nat):Gx h el sz 0 [] none 0 0 h:=⟨Old.refl _,rfl,by simp,rfl,by simp,by omega⟩
theorem Gx.push {P:Program} {h:AH} {st el sz by' m:Nat} {cs ns:List Value} {p:Option Addr} {n c:Nat} {g g1:AH} (G:Gx h el sz m cs p n c g) (E:za3 P st el sz by') (e:g1=g.alloc (.cells ns el false)) (hn:ns.length=sz) (hr:(m+1) * by'<=zaA) (hr2:m+1<=9223372036854775807):
 ∃p' n' c' g2,zak P g1 .append #[st,st] [.slice p n c,.slice (some ⟨g.next,0,none⟩) 1 1]=some (.slice p' n' c',g2)/\Gx h el sz (m+1) (cs ++ ns) p' n' c' g2:=by
 obtain⟨hu,i,z,hi,hz,hzs,hpos,rfl,rfl⟩:=E
 have hf:firstC g1 i.size 1 (.slice (some ⟨g.next,0,none⟩) 1 1)=some ns:=by grind[zf4]
 have hl:(cs ++ ns).length=(m+1) * i.size:=by grind[len]
 have hx:=zad e
 have ho:=(G.old.trans (zab e))
 obtain⟨-,gn,gl,rfl,g0,ga⟩:=G
 rw[zaO hu]
 unfold zaM
 simp only[hu,hi,zjd,hf,hz]
 have fin:∀b g2,b=h.next+2 * n+1->g2=g1.alloc (.cells (cs ++ ns) el false)\/(∃b0,h.next<=b0/\b0 < g.next/\g2=(g1.del b0).alloc (.cells (cs ++ ns) el false))->Gx h el i.size (n+1) (cs ++ ns) (some ⟨b,0,none⟩) (n+1) zai g2:=by
  rintro b g2 rfl hg2
  refine⟨⟨?_,λx hx'=>?_⟩,?_,hl,rfl,λq=>by omega,λ_=>⟨rfl,rfl,?_⟩⟩ <;> rcases hg2 with rfl | ⟨b0,q1,q2,rfl⟩
  ·simp; omega
  ·simp; omega
  ·rw[AH.get_alloc,if_neg (by omega)]; exact ho.2 x hx'
  ·rw[AH.get_alloc,if_neg (by simp; omega),AH.get_del,if_neg (by omega)]; exact ho.2 x hx'
  ·simp; omega
  ·simp; omega
  ·grind[AH.get_alloc]
  ·rw[AH.get_alloc,if_pos (by simp; omega)]
 rcases QW n with rfl | hp
 ·obtain⟨rfl,rfl⟩:=g0 rfl
  have:cs=[]:=by grind
  simp only[firstC]
  rw[if_pos ⟨hzs,hpos,by omega,by simp⟩,if_neg (by decide),if_neg (by omega),if_pos ⟨Qc _,hr,hr2⟩]
  grind
 ·obtain⟨rfl,rfl,gg⟩:=ga hp
  have gg1:g1.get (h.next+2 * n - 1)=some (.cells cs el false):=by grind[AH.get_alloc]
  have hfo:firstC g1 i.size n (.slice (some ⟨h.next+2 * n - 1,0,none⟩) n zai)=some cs:=by grind[firstC]
  simp only[hfo]
  rw[if_pos ⟨hzs,hpos,by omega,gl⟩,if_pos trivial]
  simp only[gg1]
  rw[if_pos ⟨trivial,hr,hr2⟩]
  grind
theorem zAC:za3 Tryz.prog 153 294 2 16:=zaW (by kernel_rfl)
theorem zAD:za3 Tryz.prog 61 3 1 8:=zaW (by rfl)
def SpQ (h:AH) (acc:List (Nat×Nat)) (p:Option Addr) (n c:Nat) (g:AH):Prop:=Gx h 294 2 acc.length (zqu acc) p n c g
theorem zxa (s l:Nat) (r:List (Nat×Nat)):(zqu ((s,l) :: r))[r.length * 2]?= some (.int .i64 s)/\(zqu ((s,l) :: r))[r.length * 2+1]?= some (.int .i64 l)/\∀m:Nat,(zqu ((s,l) :: r)).set (r.length * 2+1) (.int .i64 m)=zqu ((s,m) :: r):=by
 have:=zlb r
 simp only[zqu]
 refine⟨?_,?_,λm=>?_⟩
 ·grind
 ·grind
 ·rw[List.set_append_right _ _ (by omega),show r.length * 2+1 - (zqu r).length=1 by omega]; rfl
theorem zvC {K:Xs} (hk:K 253=none) {h:AH} {b:Nat} {cs:List Value} {el:TypeId} {ro:Bool} {p:Nat->Bool} (hb:h.get b=some (.cells cs el ro)) (hlt:b < h.next) (hp:∀j,j < 4096->cs[j]?= some (.bool (p j))):
 Wf Tryz.prog K 253 [.pointer (some ⟨b,0,none⟩)] h λv g=>∃q n c,v=.slice q n c/\SpQ h (spM p 4096) q n c g:=by
 refine zfR hk _ _ _ ⟨λf g i j d e=>∃t:Nat,j=t/\t<=4096/\d=4096 - t/\SpQ h (spM p t) f g i e,⟨_,0,rfl,by omega,rfl,Gx.nil _ _ _⟩,?_⟩
 rintro d e f g i j ⟨t,rfl,ht,rfl,S⟩
 refine⟨λz=>zaa ⟨by omega,z,?_⟩,λz=>?_⟩
 rotate_left
 ·grind
 have hld:ld1 e b (0+Int.toNat t * 1)=some (.bool (p t)):=by rw[zdJ ((S.old.2 b hlt).trans hb),Qh,show 0+t * 1=t by omega,hp t (by omega)]
 obtain⟨e1,e2⟩:=zte p t
 have hg:=S.nm
 cases hpt:p t with
 | false=>
   rw[hpt] at hld
   refine .inr ⟨hld,λae hae=>?_⟩
   have hae:=zaT hae (by omega) (by omega)
   exact⟨_,by omega,t+1,hae,by omega,rfl,by simp only[spM,hpt]; omega⟩
 | true=>
   rw[hpt] at hld
   have push:∀ak,ak=e.alloc (.cells [.int .i64 (t:Int),.int .i64 1] 294 false)->zcT (spM p t) t=(t,1) :: spM p t->∃al am an ao,zak Tryz.prog ak .append #[153,153] [.slice f g i,(.slice (some ⟨e.next,0,none⟩) 1 1)]=some (.slice al am an,ao)/\
    ∀ap:Int,ap=IntKind.wrap .i64 ((t:Int)+1)->∃ad,ad < 4096 - t/\∃t' : Nat,ap=t'/\t'<=4096/\ad=4096 - t'/\SpQ h (spM p t') al am an ao:=by
    intro ak hak hs
    obtain⟨p',n',c',g2,k1,k2⟩:=Gx.push S zAC hak rfl (by grind[zaA]) (by omega)
    refine⟨p',n',c',g2,k1,λap hap=>?_⟩
    have hap:=zaT hap (by omega) (by omega)
    refine⟨_,by omega,t+1,hap,by omega,rfl,?_⟩
    simp only[spM,hpt,hs]
    exact k2
   refine .inl ⟨hld,λm hm=>?_⟩
   have hm:=zaT hm (by omega) (by omega)
   cases hacc:spM p t with
   | nil=>
     refine⟨by grind,λ_ ak hak=>push ak hak (by rw[hacc]; rfl)⟩
   | cons a r=>
     obtain⟨s,l⟩:=a
     have e3:=e2 s l r hacc
     rw[hacc] at S hg
     simp only[QF] at hg
     obtain⟨rfl,rfl,hgt⟩:=S.at1 (by simp)
     obtain⟨f1,f2,f3⟩:=zxa s l r
     have hfl:=zlb ((s,l) :: r)
     simp only[QF] at hfl
     have hm' : Int.toNat m=r.length:=by omega
     refine⟨λq=>zaa ⟨q,by omega,s,?_,zaa ⟨q,by omega,l,?_,λu hu=>?_⟩⟩,by omega⟩
     ·grind[zdJ]
     ·grind[zdJ]
     have hu:=zaT hu (by omega) (by omega)
     refine⟨λhut=>zaa ⟨q,by omega,l,by grind[zdJ],λy hy=>zaa ⟨q,by omega,_,zaN hgt (by omega),λac hac=>?_⟩⟩,λhut ae hae=>push ae hae ?_⟩
     ·have hy:=zaT hy (by omega) (by omega)
      have hac:=zaT hac (by omega) (by omega)
      refine⟨_,by omega,t+1,hac,by omega,rfl,?_⟩
      have hs:spM p (t+1)=(s,l+1) :: r:=by simp only[spM,hpt,hacc,zcT]; grind[ztn]
      rw[hs,hm',Qq,show y=((l+1:Nat):Int) by omega,f3]
      refine⟨⟨by simpa using S.old.1,λx hx=>?_⟩,by simpa using S.next,by grind,S.nm,λq=>by grind,by simp⟩
      rw[zal (by grind)]
      exact S.old.2 x hx
     grind[zcT,zjf]
theorem ztf {p q:Nat->Bool}:∀n,(∀j,j < n->p j=q j)->spM p n=spM q n
 | 0,_=>rfl
 | n+1,h=>by simp only[spM,ztf n (λj hj=>h j (by omega)),h n (by omega)]
theorem zpf {p:Nat->Bool} {m:Nat} (h:∀j,m<=j->p j=false):∀k,spM p (m+k)=spM p m
 | 0=>rfl
 | k+1=>by show spM p (m+k+1)=_; simp only[spM,h (m+k) (by omega),zpf h k]
def zy0:List (Nat×Nat)->Nat
 | []=>0
 | (_,l) :: r=>l+zy0 r
theorem ztg (p:Nat->Bool):∀n,zy0 (spM p n)=((List.range n).filter p).length
 | 0=>rfl
 | n+1=>by
   rw[List.range_succ,List.filter_append,Qs,<-ztg p n]
   simp only[spM]
   cases hp:p n with
   | false=>grind
   | true=>
     rcases spM p n with _ | ⟨⟨s,l⟩,r⟩
     all_goals grind[zcT,zy0]
def zzm (f:Value->Option Bool) (l:List Value):Nat->List (Nat×Nat)->Option (List (Nat×Nat)):=List.rec (motive:=λ_=>Nat->List (Nat×Nat)->Option (List (Nat×Nat))) (λ_ acc=>some acc) (λv _ g n acc=>match f v with | some b=>g (Nat.succ n) (Bool.rec acc (zcT acc n) b) | none=>none) l
theorem zjb {f:Value->Option Bool} {p:Nat->Bool}:∀{l:List Value} {k:Nat} {r:List (Nat×Nat)},(∀i,i < l.length->((l[i]?).bind f).getD false=p (k+i))->zzm f l k (spM p k)=some r->r=spM p (k+l.length)/\∀i,i < l.length->(l[i]?).bind f=some (p (k+i))
 | [],k,r,hp,h=>by cases h; simp
 | v :: l,k,r,hp,h=>by
   change (match f v with | some b=>zzm f l (Nat.succ k) (Bool.rec (spM p k) (zcT (spM p k) k) b) | none=>none)=some r at h
   split at h
   ·rename_i b hb
    have h0:b=p k:=by simpa[hb] using hp 0 (by simp)
    subst h0
    obtain⟨h1,h2⟩:=zjb (k:=k+1) (λi hi=>by rw[show k+1+i=k+(i+1) by omega]; simpa using hp (i+1) (by grind)) h
    grind
   grind
def isS (s:Nat):Value->Option Bool
 | .int .u8 (.ofNat x)=>some (Nat.beq x s)
 | _=>none
def isT:Value->Option Bool
 | .bool b=>some b
 | _=>none
def zjc (acc:List (Nat×Nat)) (h:AH) (n:Nat):Value×AH:=
 match acc with
 | []=>(.slice none 0 0,⟨h.tr,n⟩)
 | x :: r=>(.slice (some ⟨n+2 * r.length+1,0,none⟩) (r.length+1) zai,⟨h.tr.set (n+2 * r.length+1) (.cells (zqu (x :: r)) 294 false),n+2 * r.length+2⟩)
theorem zmR {h g0 g:AH} {acc:List (Nat×Nat)} {q:Option Addr} {n c:Nat} (S:SpQ g0 acc q n c g) (o:Old h g) (hl:h.next<=g0.next) (hwf:∀b o,h.get b=some o->b < h.next):
 Value.slice q n c=(zjc acc h g0.next).1/\(∀b o,(zjc acc h g0.next).2.get b=some o->g.get b=some o)/\g.next<=(zjc acc h g0.next).2.next:=by
 have hold:∀b o',h.get b=some o'->g.get b=some o':=λb o' e=>(o.2 b (hwf b o' e)).trans e
 have hn:=S.next
 have hm:=S.nm
 rcases acc with _ | ⟨x,r⟩
 ·obtain⟨rfl,rfl⟩:=S.at0 rfl
  subst hm
  exact⟨rfl,hold,by grind[zjc]⟩
 ·obtain⟨rfl,rfl,hg⟩:=S.at1 (by simp)
  subst hm
  refine⟨rfl,λb o' e=>?_,by grind[zjc]⟩
  change (AH.set h (g0.next+2 * r.length+1) (.cells (zqu (x :: r)) 294 false)).get b=some o' at e
  grind[AH.get_set]
def zth:List Value->AH->Option (Value×AH)
 | [.pointer (some ⟨b,0,none⟩)],h=>
   match h.get b with
   | some (.cells cs _ _)=>(match zii 4096 cs with | some l=>(match zzm isT l 0 [] with | some acc=>some (zjc acc h h.next) | none=>none) | none=>none)
   | _=>none
 | _,_=>none
theorem zy1 {K:Xs} (hk:K 253=none):zpT Tryz.prog K 253 zth:=by
 refine zhB hk λargs h v h' hwf hg=>?_
 unfold zth at hg
 split at hg
 rotate_left
 ·grind
 split at hg
 rotate_left
 ·grind
 rename_i cs el ro hb
 split at hg
 rotate_left
 ·grind
 rename_i l hl
 split at hg
 rotate_left
 ·grind
 rename_i acc ha
 obtain⟨hll,hat⟩:=zla (off:=0) (show zii 4096 (zih 0 cs)=some l by grind[zen])
 obtain⟨rfl,h2⟩:=zjb (p:=λi=>((l[i]?).bind isT).getD false) (k:=0) (by simp) ha
 refine (zvC hk hb (hwf _ _ hb) (p:=λi=>((l[i]?).bind isT).getD false) λj hj=>?_).mono ?_
 ·have:=h2 j (by omega)
  rw[Qq] at this
  cases hj' : l[j]? with
  | none=>grind
  | some w=>rw[hj'] at this; cases w <;> simp_all[isT]
 ·rintro _ g ⟨q,n,c,rfl,S⟩
  have hq:0+l.length=4096:=by omega
  have:=zmR S S.old (Qc _) hwf
  grind
theorem ofW {K:Xs} (hk:K 231=none) (hs:K 253=none) {h0 h:AH} {N:List Nat} {a:Option Addr} {n c:Nat} (G:Gx h0 3 1 N.length (za7 .i64 N) a n c h) (hN:∀x∈N,x < 4096) (hL:N.length<=1024):
 Wf Tryz.prog K 231 [.slice a n c] h λv g=>∃q n c g0,v=.slice q n c/\g0.next=h.next+1/\Old h g0/\SpQ g0 (spM (λx=>N.contains x) 4096) q n c g:=by
 have hl:=G.nm
 refine zqo hk _ _ _ _ _ ⟨List.replicate 4096 (.bool false),by kernel_rfl,λf hf=>⟨λk i j=>∃t:Nat,k=t/\t<=N.length/\i=N.length - t/\j.next=h.next+1/\Old h j/\∃cs,j.get h.next=some (.cells cs 336 false)/\cs.length=4096/\∀x,x < 4096->cs[x]?= some (.bool ((N.take t).contains x)),
  ⟨_,0,rfl,by omega,rfl,zad hf,zab hf,_,zae hf,List.length_replicate,by grind⟩,?_⟩⟩
 rintro i j k ⟨t,rfl,ht,rfl,j1,j2,cs,j3,j4,j5⟩
 refine⟨λz=>?_,λz=>?_⟩
 ·have htn:t < N.length:=by omega
  obtain⟨rfl, -,hg⟩:=G.at1 (by omega)
  have hx:N[t] < 4096:=by grind[Qj]
  refine zaa ⟨by omega,z,N[t],?_,?_⟩
  ·rw[zdJ ((j2.2 _ (by grind[Gx.next])).trans hg),Qh,show 0+t * 1=t by omega,zbu htn]
  refine⟨λ_=>⟨λ_=>⟨by omega,by omega,_,zaN j3 (by omega),λq hq=>?_⟩,by omega⟩,by omega⟩
  have hq:=zaT hq (by omega) (by omega)
  refine⟨_,by omega,t+1,hq,by omega,rfl,by simpa using j1,⟨by simpa using j2.1,λb hb=>by rw[zal (by omega)]; exact j2.2 b hb⟩,_,zaf _ _ _,by grind,λx hx'=>?_⟩
  have hc:(N.take (t+1)).contains x=((N.take t).contains x || x == N[t]):=by grind[Qv]
  grind
 ·have:t=N.length:=by omega
  subst this
  refine (zvC hs j3 (by omega) j5).mono ?_
  grind
theorem isW {K:Xs} (hk:K 178=none) {h:AH} {b off i s x:Nat} {cs:List Value} {el:TypeId} {ro:Bool} (hb:h.get b=some (.cells cs el ro)) (hi:i < 1024) (hc:cs[off+i]?= some (.int .u8 x)):
 Wf Tryz.prog K 178 [.pointer (some ⟨b,off,none⟩),.int .i64 i,.int .u8 s] h λv g=>v=.bool (Nat.beq x s)/\g=h:=by grind[zjy,zaa,zdJ,Qh,ztn,zjf]
def zzn:List Value->AH->Option (Value×AH)
 | [.pointer (some ⟨b,off,none⟩),.int .u8 (.ofNat s)],h=>
   match h.get b with
   | some (.cells cs _ _)=>(match zii 1024 (zih off cs) with | some l=>(match zzm (isS s) l 0 [] with | some acc=>some (zjc acc h (h.next+2 * zy0 acc+1)) | none=>none) | none=>none)
   | _=>none
 | _,_=>none
theorem zy2 {s:Nat} {o:Option Value} {b:Bool} (h:o.bind (isS s)=some b):∃x:Nat,o=some (.int .u8 x)/\Nat.beq x s=b:=by
 cases o with
 | none=>grind
 | some v=>
   simp only[Option.bind_some] at h
   unfold isS at h
   split at h
   all_goals grind
theorem zFW {K:Xs} (hk:K 217=none) (hi:K 178=none) (ho:K 231=none) (hs:K 253=none):zpT Tryz.prog K 217 zzn:=by
 refine zhB hk λargs h v h' hwf hg=>?_
 unfold zzn at hg
 split at hg
 rotate_left
 ·grind
 rename_i b off s
 split at hg
 rotate_left
 ·grind
 rename_i cs el ro hb
 split at hg
 rotate_left
 ·grind
 rename_i l hl
 split at hg
 rotate_left
 ·grind
 rename_i acc ha
 obtain⟨hll,hat⟩:=zla hl
 obtain⟨p,hp⟩:∃p:Nat->Bool,p=λi=>((l[i]?).bind (isS s)).getD false:=⟨_,rfl⟩
 obtain⟨rfl,h2⟩:=zjb (p:=p) (k:=0) (by grind) ha
 have hlt:=hwf _ _ hb
 refine zja hk _ _ _ _ ⟨λg i j k e f=>∃t:Nat,k=t/\t<=1024/\e=1024 - t/\Gx h 3 1 ((List.range t).filter p).length (za7 .i64 ((List.range t).filter p)) g i j f,⟨_,0,rfl,by omega,rfl,Gx.nil _ _ _⟩,?_⟩
 rintro e f g i j k ⟨t,rfl,ht,rfl,G⟩
 have hfl:((List.range t).filter p).length<=t:=by grind
 have hr:(List.range (t+1)).filter p=(List.range t).filter p ++ (if p t then [t] else []):=by grind[List.range_succ]
 refine⟨λz=>?_,λz=>?_⟩
 ·obtain⟨x,hx,hxs⟩:=zy2 (h2 t (by omega))
  rw[Qq] at hxs
  refine (isW hi ((G.old.2 b hlt).trans hb) (by omega) (by rw[hat t (by omega),hx])).mono ?_
  rintro _ m ⟨rfl,rfl⟩
  rw[hxs]
  cases hpt:p t with
  | false=>
    refine .inr ⟨rfl,λv hv=>?_⟩
    have hv:=zaT hv (by omega) (by omega)
    refine⟨_,by omega,t+1,hv,by omega,rfl,?_⟩
    grind
  | true=>
    refine .inl ⟨rfl,λo ho'=>?_⟩
    obtain⟨p',n',c',g2,k1,k2⟩:=Gx.push G zAD ho' rfl (by grind[zaA]) (by omega)
    refine⟨_,_,_,_,k1,λt' ht'=>?_⟩
    have ht':=zaT ht' (by omega) (by omega)
    refine⟨_,by omega,t+1,ht',by omega,rfl,?_⟩
    rw[hr,hpt,if_pos rfl,Qs,zhm]
    exact k2
 ·have:t=1024:=by omega
  subst this
  refine (ofW ho hs G λx hx=>by grind) hfl |>.mono ?_
  rintro _ g' ⟨q,n,c,g0,rfl,n0,o0,S⟩
  have hall:spM (λx=>((List.range 1024).filter p).contains x) 4096=spM p 1024:=by
   rw[show 4096=1024+3072 from rfl,zpf (by grind)]
   exact by grind[ztf]
  have e0:g0.next=h.next+2 * zy0 (spM p 1024)+1:=by grind[Gx.next,ztg]
  have:=zmR S ((G.old.trans o0).trans S.old) (by omega) hwf
  grind
def zxb (s:Nat) (l:List Value):Bool:=List.rec (motive:=λ_=>Bool) true (λv _ g=>match v with | .int .u8 (.ofNat x)=>Bool.rec g false (Nat.beq x s) | _=>false) l
theorem zpg {s:Nat}:∀{l:List Value},zxb s l=true->∀i,i < l.length->∃x:Nat,l[i]?= some (.int .u8 x)/\Nat.beq x s=false
 | [],_,i,hi=>by grind
 | v :: l,h,i,hi=>by
   change (match (generalizing:=false) v with | .int .u8 (.ofNat x)=>Bool.rec (zxb s l) false (Nat.beq x s) | _=>false)=true at h
   split at h
   ·rename_i x
    cases hx:Nat.beq x s with
    | true=>simp_all
    | false=>
      rw[hx] at h
      cases i with
      | zero=>grind
      | succ i=>exact zpg (l:=l) h i (by grind)
   grind
def zoj:List Value->AH->Option (Value×AH)
 | [.pointer (some ⟨b,off,none⟩)],h=>
   match h.get b with
   | some (.cells cs _ _)=>(match zii 1024 (zih off cs) with | some l=>cond (zxb 3 l) (some (.tuple #[],h)) none | none=>none)
   | _=>none
 | _,_=>none
theorem zxc {K:Xs} (hk:K 117=none) (hi:K 178=none):zpT Tryz.prog K 117 zoj:=by
 refine zhB hk λargs h v h' hwf hg=>?_
 unfold zoj at hg
 split at hg
 rotate_left
 ·grind
 split at hg
 rotate_left
 ·grind
 rename_i cs el ro hb
 split at hg
 rotate_left
 ·grind
 rename_i l hl
 obtain⟨h1,h2⟩:=zgI hg
 cases h2
 obtain⟨hll,hat⟩:=zla hl
 refine zfS hk _ _ _ ⟨λf d e=>∃t:Nat,f=t/\t<=1024/\d=1024 - t/\e=h,by grind,?_⟩
 rintro d e f ⟨t,rfl,ht,rfl,rfl⟩
 refine⟨λz=>?_,by simp⟩
 obtain⟨x,hx,hxs⟩:=zpg h1 t (by omega)
 refine (isW hi (s:=3) hb (by omega) (by rw[hat t (by omega),hx])).mono ?_
 rintro _ m ⟨rfl,rfl⟩
 refine .inr ⟨by grind,λo ho=>?_⟩
 have ho:=zaT ho (by omega) (by omega)
 exact⟨_,by omega,t+1,ho,by omega,rfl,rfl⟩
end
noncomputable section
def k1:Xs:=zmS (zjh 266) 221 (.sum zw9)
def k2:Xs:=zmS k1 253 (.sum zth)
def k3:Xs:=zmS k2 217 (.sum zzn)
def kz:Xs:=zmS k3 117 (.sum zoj)
theorem zy3:zlF (zbJ Tryz.prog kz (exQ Tryz.prog kz 2000) 5 [] ⟨.nil,0⟩)=true:=by kernel_rfl
end
end Go.Am
