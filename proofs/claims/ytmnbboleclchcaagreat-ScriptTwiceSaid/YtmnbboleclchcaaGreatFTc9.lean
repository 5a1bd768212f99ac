/-
  Texts of this proof, part 22. No condition.
-/
import Derived.Test.YtmnbboleclchcaaGreatFTc6
set_option linter.unusedVariables false
set_option linter.unusedSimpArgs false
namespace Go.Am
section
variable {X:Cx} {S S' : TY} {h:AH} {L:Loc} {base:Nat}
theorem zaQ (k:IntKind) (n:Int):InR k (k.wrap n):=by
 cases k <;> simp only[InR,kLo,kHi,IntKind.wrap,IntKind.bits,IntKind.signed,Bool.true_and,Bool.false_and,decide_eq_true_eq,ge_iff_le,Bool.false_eq_true,if_false] <;> (omega) <;> omega
theorem zgh {k:IntKind} {n:Int} (h1:kLo k<=n) (h2:n<=kHi k):k.wrap n=n:=by
 cases k <;> simp only[kLo,kHi] at h1 h2 <;> simp only[IntKind.wrap,IntKind.bits,IntKind.signed,Bool.true_and,Bool.false_and,decide_eq_true_eq,ge_iff_le,Bool.false_eq_true,if_false] <;> (omega) <;> omega
theorem zwz {k:IntKind} {c:Int} (r:InR k c):gam X S h L base (.int k c) (.int k c):=by simp only[gam]; exact⟨trivial,r⟩
theorem zit (b:Bool):gam X S h L base (.bool b) (.bool b):=by rfl
def zfz (X:Cx) (S:TY) (h:AH) (L:Loc) (base:Nat) (y:Option Value) (q:TV->Prop):Prop:=∃v x,y=some x/\gam X S h L base v x/\tagsOf v=[]/\q v
theorem zaH {k:IntKind} {c:Int} {q:TV->Prop} (r:InR k c) (w:q (.int k c)):zfz X S h L base (some (.int k c)) q:=⟨_,_,rfl,zwz r,rfl,w⟩
theorem zbg {b:Bool} {q:TV->Prop} (w:q (.bool b)):zfz X S h L base (some (.bool b)) q:=⟨_,_,rfl,zit b,rfl,w⟩
theorem zfA {p:Prop} [Decidable p] {q:TV->Prop} (w:(p->q (.bool true))/\(¬p->q (.bool false))):zfz X S h L base (some (.bool (decide p))) q:=by
 by_cases hp:p
 all_goals grind[zbg]
theorem zp1 {op:BinOp} {k:IntKind} {i j:Int} {q:TV->Prop} (w:zzJ op k i j q) (hi:InR k i) (hj:InR k j):zfz X S h L base (zgK op k i j) q:=by
 cases op <;> simp only[zzJ] at w <;> simp only[zgK] <;> try exact w.elim
 case add=>exact zaH (zaQ _ _) (w _ (zaQ _ _) λh1 h2=>zgh h1 h2)
 case sub=>exact zaH (zaQ _ _) (w _ (zaQ _ _) λh1 h2=>zgh h1 h2)
 case mul=>exact zaH (zaQ _ _) (w _ (zaQ _ _) λh1 h2=>zgh h1 h2)
 case quo=>
  rw[if_neg w.1]
  refine zaH (zaQ _ _) (w.2 _ (zaQ _ _) λh1 h2=>?_)
  have e:i.tdiv j=i / j:=by grind
  have h3:0<=i / j:=Int.ediv_nonneg h1 (Int.le_of_lt h2)
  have h4:i / j<=i:=Int.ediv_le_self j h1
  rw[e,zgh (Int.le_trans (by cases k <;> decide) h3) (Int.le_trans h4 hi.2)]
 case rem=>
  have r:InR k (i.tmod j):=by
   have h1:(i.tmod j).natAbs<=i.natAbs:=by rw[Int.natAbs_tmod]; exact Nat.mod_le _ _
   have h2:0<=i->0<=i.tmod j:=by grind[Int.tmod_nonneg]
   have h3:kLo k<=0/\0<=kHi k:=by cases k <;> decide
   have h4:i<=0->i.tmod j<=0:=λq=>by
    have:=Int.tmod_nonneg j (a:=-i) (by omega)
    simp_all
   have:=hi.1
   have:=hi.2
   constructor <;> omega
  grind[zaH]
 case and=>exact zaH (zaQ _ _) (w _ (zaQ _ _))
 case or=>exact zaH (zaQ _ _) (w _ (zaQ _ _))
 case xor=>exact zaH (zaQ _ _) (w _ (zaQ _ _))
 case andNot=>exact zaH (zaQ _ _) (w _ (zaQ _ _))
 case eql=>
  by_cases e:i=j
  ·rw[show (i == j)=true by grind]; exact zbg (w.1 e)
  ·rw[show (i == j)=false by grind]; exact zbg (w.2 e)
 case neq=>
  by_cases e:i=j
  ·rw[show (i != j)=false by grind]; exact zbg (w.1 e)
  ·rw[show (i != j)=true by grind]; exact zbg (w.2 e)
 case lss=>exact zfA w
 case leq=>exact zfA w
 case gtr=>exact zfA w
 case geq=>exact zfA w
theorem zdm {op:BinOp} {z:Bool} {q:TV->Prop} (w:tEq op z q) {y:Option Bool} (hy:y=some z) {P:Program} {t:TypeId} {a b:Value} (ha:∀k i,a≠.int k i) (hs:∀s,a≠.string s) (he:aEq P t a b=y):zfz X S h L base (zfV P op t a b) q:=by
 have e1:zfV P op t a b=(match op with | .eql=>(aEq P t a b).map .bool | .neq=>(aEq P t a b).map λb=>.bool (!b) | _=>none):=by
  unfold zfV
  split
  ·grind
  ·grind
  ·cases op <;> rfl
 rw[e1,he,hy]
 unfold tEq zxG at w
 cases op <;> simp only at w <;> first | exact w.elim | skip
 ·refine zbg ?_
  cases z <;> exact w
 ·refine zbg ?_
  cases z <;> exact w
theorem zxM {k:IntKind} {i:Int} (hi:InR k i) (m:Nat):InR k (i.fdiv (2 ^ m))/\(0<=i->0<=i.fdiv (2 ^ m)/\i.fdiv (2 ^ m)<=i):=by
 have hp:(0:Int) < 2 ^ m:=Int.pow_pos (by omega)
 rw[Int.fdiv_eq_ediv_of_nonneg _ (Int.le_of_lt hp)]
 by_cases h0:0<=i
 ·have h1:0<=i / 2 ^ m:=Int.ediv_nonneg h0 (Int.le_of_lt hp)
  have h2:i / 2 ^ m<=i:=Int.ediv_le_self _ h0
  exact⟨⟨Int.le_trans (by cases k <;> decide) h1,Int.le_trans h2 hi.2⟩,by omega⟩
 ·have h1:i / 2 ^ m < 0:=Int.ediv_neg_of_neg_of_pos (by omega) hp
  have h2:i<=i / 2 ^ m:=by
   rw[Int.le_ediv_iff_mul_le hp]
   have:i * 2 ^ m<=i * 1:=Int.mul_le_mul_of_nonpos_left (by omega) (by omega)
   omega
  have:0<=kHi k:=by cases k <;> decide
  exact⟨⟨Int.le_trans hi.1 h2,by omega⟩,by omega⟩
theorem zeq {T:Nat} {v:Value} (p:zbr X S T v):∃b off,v=ptr b off:=by grind[zbr]
theorem zvb {a b:ByteArray} (h:(a == b)=true):a=b:=by
 obtain⟨a⟩:=a
 obtain⟨b⟩:=b
 congr 1
 exact eq_of_beq (show (a == b)=true from h)
theorem zp2 (O:XOk X) {op:BinOp} {t:TypeId} {x y:TV} {q:TV->Prop} (w:zzK X op t x y q) {a b:Value} (ga:gam X S h L base x a) (gb:gam X S h L base y b):zfz X S h L base (zfV X.P op t a b) q:=by
 have agg:∀{x:TV} {q' : Prop},X.ke t=true->(q'->zoL q)->q'->zdk X S t a->(∃vs,a=.agg vs)->zdk X S t b->(∃vs,b=.agg vs)->∀z,zxG op=some z->zfz X S h L base (zfV X.P op t a b) q:=by
  rintro x q' hk hq w ca ⟨va,rfl⟩ cb ⟨vb,rfl⟩ z hz
  obtain⟨la,hla⟩:=O.ke S t va.toList hk ca.1 ca.2.1
  obtain⟨lb,hlb⟩:=O.ke S t vb.toList hk cb.1 cb.2.1
  rw[Array.toArray_toList] at hla hlb
  have he:aEq X.P t (.agg va) (.agg vb)=some (litsEq la lb):=by grind[aEq,XOk.kt]
  refine zdm (z:=litsEq la lb) ?_ rfl (by simp) (by simp) he
  grind[tEq,zdB]
 unfold zzK at w
 split at w
 ·rename_i k i
  split at w
  rotate_left
  ·grind
  rename_i k' j
  obtain⟨rfl,ri⟩:=ga
  obtain⟨rfl,rj⟩:=gb
  split at w
  ·simp only[zfV,zaV]
   rw[if_neg (by omega)]
   exact zaH (zaQ _ _) (w.2 _ (zaQ _ _))
  ·simp only[zfV,zaV]
   have:=zxM ri (min j.toNat k.bits)
   grind[zaH]
  ·split at w
   rotate_left
   ·grind
   rename_i hk
   have hk:=of_decide_eq_true hk
   subst hk
   have e:zfV X.P op t (.int k i) (.int k j)=zgK op k i j:=by grind[zfV]
   rw[e]
   exact zp1 w ri rj
 ·rename_i s1
  split at w
  rotate_left
  ·grind
  rename_i s2
  obtain⟨rfl,h1⟩:=ga
  obtain⟨rfl,h2⟩:=gb
  split at w
  ·simp only[zfV,zvD]
   have hb:(za8:Int)<=9223372036854775807:=by decide
   rw[if_pos (by omega)]
   exact⟨_,_,rfl,by grind[gam],rfl,w.2 _ ByteArray.size_append⟩
  ·refine zbg ?_
   cases hq:s1 == s2<;>grind[zvb]
  ·refine zbg ?_
   cases hq:s1 == s2<;>grind[zvb]
  all_goals grind[zfV,zvD,zbg,zdB]
 ·split at w
  rotate_left
  ·grind
  simp only[gam] at ga gb
  subst ga; exact zdm w rfl (by simp) (by simp) (by grind[aEq,zat])
 ·rename_i T z
  split at w
  rotate_left
  ·grind
  simp only[gam] at ga gb
  cases z with
  | true=>
    subst ga
    exact zdm w rfl (by simp) (by simp) (by grind[aEq,zat])
  | false=>
    obtain⟨b',off,rfl⟩:=zeq ga
    exact zdm w rfl (λ_ _ e=>by cases e) (λ_ e=>by cases e) (by grind[aEq,ptr,zat])
 ·split at w
  rotate_left
  ·grind
  simp only[gam] at ga gb
  obtain⟨b',off,rfl⟩:=zeq ga
  exact zdm w rfl (λ_ _ e=>by cases e) (λ_ e=>by cases e) (by grind[aEq,ptr,zat])
 ·split at w
  rotate_left
  ·grind
  simp only[gam] at ga gb
  subst ga
  exact zdm w rfl (by simp) (by simp) (by grind[aEq,zat])
 ·split at w
  rotate_left
  ·grind
  rename_i z hb hk hz
  have hb:=Qb hb
  obtain⟨vs,rfl,h1,h2⟩:=ga
  obtain⟨wq,cb,hbb⟩:=zbE O w gb
  have hbb:=hbb (O.ka _ hk)
  exact agg (x:=.any) hk id wq ⟨by grind[zcC],by grind[zcC],by grind[zcC,ze2],by simp⟩ ⟨_,rfl⟩ cb hbb z hz
 ·split at w
  rotate_left
  ·grind
  rename_i z hk hz
  obtain⟨w1,ca,_⟩:=zbE O w ga
  obtain⟨wq,cb,hbb⟩:=zbE O w1 gb
  have hbb:=hbb (O.ka _ hk)
  obtain⟨vs,rfl,_⟩:=ga
  exact agg (x:=.any) hk id wq ca ⟨_,rfl⟩ cb hbb z hz
 grind
end
section
variable {X:Cx} {S S' : TY} {h:AH} {L:Loc} {base:Nat}
def ziu (S:TY) (L:Loc):Reg->Nat->Prop
 | .prv tag,b=>∃c,L tag=some (b,c)
 | .pub,b=>∃q,S.ty b=some q
def Chg (c:OpC) (S:TY) (h:AH) (L:Loc) (σ:Sx) (S' : TY) (h' : AH) (L' : Loc) (σ' : Sx):Prop:=
 match c with
 | .still=>h'= h/\S'= S/\L'= L/\σ'.pv=σ.pv
 | .quiet=>∀b,b < h.next->h'.get b=h.get b
 | .wr r=>∀b,b < h.next->¬ziu S L r b->h'.get b=h.get b
 | .wild=>True
 | .mk d=>(∀b,b < h.next->h'.get b=h.get b)/\S'= S/\(∀t,t≠d->L' t=L t)/\∀t c,t≠d->zaD σ.pv t=some c->zaD σ'.pv t=some c
def zgZ (X:Cx) (pu:Bool) (base:Nat) (S0:TY) (h0:AH) (S:TY) (h:AH) (L:Loc) (σ:Sx) (e:Env) (c:OpC) (k:TV->Sx->Prop):Value->AH->Prop:=
 λv h'=>∃S' L' σ' tv,G X pu base S0 h0 S' h' L' σ' e/\gam X S' h' L' base tv v/\zoO σ' tv/\h.next<=h'.next/\Chg c S h L σ S' h' L' σ'/\k tv σ'
theorem zaE {σ:Sx} {v:TV} (h:tagsOf v=[]):zoO σ v:=λt ht=>by grind
theorem Chg.same {c:OpC} {σ:Sx} (hq:c=.still\/c=.quiet):Chg c S h L σ S h L σ:=by rcases hq with rfl | rfl; exact⟨rfl,rfl,rfl,rfl⟩; exact λ_ _=>rfl
section
variable {pu:Bool} {S0:TY} {h0:AH} {σ:Sx} {e:Env} {k:TV->Sx->Prop} {c:OpC}
theorem G.still (g:G X pu base S0 h0 S h L σ e) {tv:TV} {v:Value} (gv:gam X S h L base tv v) (hp:zoO σ tv) (w:k tv σ) (hq:c=.still\/c=.quiet):zgZ X pu base S0 h0 S h L σ e c k v h:=⟨S,L,σ,tv,g,gv,hp,Qc _,Chg.same hq,w⟩
theorem zr3 {op:UnOp} {x:TV} {q:TV->Prop} (w:tUn op x q) {a:Value} (g:gam X S h L base x a):zfz X S h L base (aUn op a) q:=by
 unfold tUn at w
 split at w
 ·subst g; exact zbg w
 ·obtain⟨rfl,r⟩:=g
  refine zaH (zaQ _ _) (w _ (zaQ _ _) λh1 h2=>?_)
  grind[zgh]
 ·obtain⟨rfl,r⟩:=g
  exact zaH (zaQ _ _) (w _ (zaQ _ _))
 grind
theorem zfB {mx:Bool} {x y:TV} {q:TV->Prop} (w:zkK mx x y q) {a b:Value} (ga:gam X S h L base x a) (gb:gam X S h L base y b):zfz X S h L base (zdP mx [a,b]) q:=by
 unfold zkK at w
 split at w
 rotate_left
 ·grind
 rename_i k i k' j
 split at w
 rotate_left
 ·grind
 rename_i hk
 have hk:=of_decide_eq_true hk
 subst hk
 obtain⟨rfl,r1⟩:=ga
 obtain⟨rfl,r2⟩:=gb
 simp only[zdP,zc5]
 cases mx with
 | true=>
   by_cases hj:j > i
   ·rw[if_pos hj]; exact zaH r2 (w _ r2 (.inr rfl) (by grind))
   ·rw[if_neg hj]; exact zaH r1 (w _ r1 (.inl rfl) (by grind))
 | false=>
   by_cases hj:j < i
   ·rw[if_pos hj]; exact zaH r2 (w _ r2 (.inr rfl) (by grind))
   ·rw[if_neg hj]; exact zaH r1 (w _ r1 (.inl rfl) (by grind))
def zr4 (X:Cx) (S:TY) (h:AH) (L:Loc) (base:Nat) (σ:Sx) (y:Option Value) (q:TV->Prop):Prop:=∃v x,y=some x/\gam X S h L base v x/\zoO σ v/\q v
theorem AtT.field (O:XOk X) {s:TypeId} {fs:Array Field} {f:Nat} {fd:Field} (hs:und X s=some (.struct fs)) (hf:fs[f]?= some fd) {cc:Nat->Option Nat} {off:Nat} (a:AtT X cc off s):AtT X cc (off+fd.offset) fd.type:=λi ct hi=>by
 have:=a _ _ (O.field s fs f fd hs hf i ct hi)
 grind
theorem AtT.elem (O:XOk X) {t:TypeId} {n:Nat} {ee:TypeId} (hs:und X t=some (.array n ee)) {j:Nat} (hj:j < n) {cc:Nat->Option Nat} {off:Nat} (a:AtT X cc off t):AtT X cc (off+j * sz X ee) ee:=λi ct hi=>by
 have:=a _ _ (O.elem t n ee hs j hj i ct hi)
 grind
theorem zg8 (O:XOk X) {s:TypeId} {x:TV} {f:Nat} {q:TV->Prop} (w:zgd X s x f q) {a:Value} (g:gam X S h L base x a) (hp:zoO σ x):zr4 X S h L base σ (zbI X.P s a f) q:=by
 unfold zgd at w
 split at w
 rotate_left
 ·grind
 rename_i fs hs
 split at w
 rotate_left
 ·grind
 rename_i fd hf
 split at w
 ·grind
 have hz:¬X.P.cellsOf fd.type=0:=λq=>by simp_all
 have key:∀b off,zbI X.P s (ptr b off) f=some (ptr b (off+fd.offset)):=by grind[zbI,ptr,zat]
 split at w
 ·rename_i tag off T
  split at w
  rotate_left
  ·grind
  rename_i hT
  have hT:=Qb hT
  obtain⟨b,cc,h1,rfl,h2⟩:=g
  exact⟨.loc tag (off+fd.offset) fd.type,_,key _ _,by grind[gam,AtT.field],hp,w⟩
 ·rename_i tag T
  split at w
  rotate_left
  ·grind
  rename_i hT
  have hT:=Qb hT
  obtain⟨b,cc,off,h1,rfl,h2⟩:=g
  exact⟨.pp tag fd.type,_,key _ _,by grind[gam,AtT.field],hp,w⟩
 ·split at w
  rotate_left
  ·grind
  rename_i hT
  have hT:=Qb hT
  obtain⟨b,off,ro,ee,cc,rfl,h1,h2,h3⟩:=g
  exact⟨_,_,key _ _,by grind[gam,AtT.field],zaE rfl,w⟩
 ·split at w
  rotate_left
  ·grind
  rename_i hT
  simp only[Qd,QJ] at hT
  obtain⟨hT,hd⟩:=hT
  have hT:=Qb hT
  subst hT
  simp only[gam,zbr,hd] at g
  obtain⟨b,cc,rfl,h1,h2⟩:=g
  exact⟨_,_,key _ _,by exact⟨b,_,_,_,cc,rfl,h1,h2.field O hs hf,λ_=>rfl,λq=>by grind⟩,zaE rfl,w⟩
 grind
theorem zmh (O:XOk X) {t:TypeId} {vs:List Value} {off:Nat} {q:TV->Prop} (w:zrN X t t q) (hv:∀i ct,(X.fl t)[i]?= some ct->∃v,vs[off+i]?= some v/\okC X S ct v):zfz X S h L base (aPart X.P t vs.toArray off) q:=by
 unfold zrN at w
 split at w
 ·rename_i ha
  split at w
  rotate_left
  ·grind
  have hs:=(O.isz ha).2
  refine⟨_,.agg ((vs.drop off).take (sz X t)).toArray,?_,?_,rfl,w⟩
  ·grind[aPart,zbG]
  ·have hp:=O.pos t ha
   have hlast:(X.fl t)[sz X t - 1]?= some ((X.fl t)[sz X t - 1]'(by grind[sz])):=by simp
   obtain⟨v,h1,_⟩:=hv _ _ hlast
   refine⟨_,rfl,by grind,λi ct hi=>?_⟩
   obtain⟨v,h1,h2⟩:=hv i ct hi
   have:i < sz X t:=(Qo.1 hi).1
   grind
 ·split at w
  rotate_left
  ·grind
  obtain⟨x,h1,h2⟩:=hv 0 t (by grind[XOk.one])
  obtain⟨v,k1,k2,k3,k4⟩:=zir (h:=h) (L:=L) (base:=base) w h2
  refine⟨v,x,?_,k2,k3,k1⟩
  grind[aPart,zbG]
 grind
theorem zmi (O:XOk X) {t:TypeId} {x:TV} {f:Nat} {q:TV->Prop} (w:zrR X t x f q) {a:Value} (g:gam X S h L base x a) (hf0:tagsOf x=[]):zfz X S h L base (zeA X.P t a f) q:=by
 unfold zrR at w
 split at w
 rotate_left
 ·grind
 rename_i fs hs
 split at w
 rotate_left
 ·grind
 rename_i fd hf
 have key:∀vs:List Value,zeA X.P t (.agg vs.toArray) f=aPart X.P fd.type vs.toArray fd.offset:=λvs=>by
  unfold zeA
  grind[zat]
 split at w
 ·split at w
  rotate_left
  ·grind
  rename_i hT
  have hT:=Qb hT
  subst hT
  obtain⟨vs,rfl,h1,h2⟩:=g
  rw[key]
  exact zmh O w λi ct hi=>h2 _ _ (O.field _ _ _ _ hs hf i ct hi)
 ·obtain⟨vs,rfl,h1,h2⟩:=g
  rw[key]
  split at w
  ·obtain⟨v,hv,w⟩:=zaq w
   obtain⟨y,h3,h4⟩:=zcR h1 hv
   refine⟨v,y,?_,h4,?_,w⟩
   all_goals grind[aPart,zbG,tagsOf,ze1]
  ·rename_i ha
   split at w
   rotate_left
   ·grind
   have hs2:=(O.isz ha).2
   refine⟨_,.agg ((vs.drop fd.offset).take (sz X fd.type)).toArray,?_,?_,?_,w⟩
   ·unfold aPart
    rw[show aggT X.P fd.type=some true from zbG ha,hs2]
    simp
   all_goals grind[gam,zfv,zfw,tagsOf,ziq]
  grind
 grind
end
end
section
variable {X:Cx} {S S' : TY} {h:AH} {L:Loc} {base:Nat}
section
variable {pu:Bool} {S0:TY} {h0:AH} {σ:Sx} {e:Env} {k:TV->Sx->Prop} {c:OpC}
theorem zd7 (O:XOk X) {T elem:Nat} (w:zcj X T elem=true) (hi:(inf X elem).isSome=true):X.P.cellsOf elem=sz X T:=by
 unfold zcj at w
 simp only[Jh,Qd] at w
 rcases w with (w | ⟨⟨w,_⟩,w2⟩) | ⟨w,w2⟩
 ·grind[Qb,XOk.cells]
 ·grind[XOk.cells,sz,XOk.one,XOk.sh]
 ·have w:=Qb w
  rw[O.cells elem hi]
  split at w2
  ·rename_i hc
   rcases ck_int hc with ⟨hb,_⟩ | ⟨hb,_,_,hu⟩
   all_goals grind[sz,XOk.r4,XOk.sp1,aggT,zat,XOk.one,zhu]
  grind
theorem zvc (O:XOk X) {elem:Nat} {k:IntKind} {lo hi:Int} (hc:ck X elem=.int k lo hi) (hi:(inf X elem).isSome=true):sz X elem=1:=by
 rcases ck_int hc with ⟨hb,_⟩ | ⟨hb,_,_,hu⟩
 all_goals grind[XOk.sp1,aggT,zat,sz,XOk.one,zhu]
theorem znG (T:Nat):zcj X T T=true:=by grind[zcj,QG]
theorem zg9 (O:XOk X) {t:TypeId} {x i:TV} {q:TV->Prop} (w:zge X t x i q) {a b:Value} (g:gam X S h L base x a) (gi:gam X S h L base i b) (hp:zoO σ x):zr4 X S h L base σ (za9 X.P t a b) q:=by
 unfold zge at w
 split at w
 rotate_left
 ·grind
 rename_i kd j
 obtain⟨rfl,_⟩:=gi
 split at w
 ·rename_i n elem hu
  split at w
  ·grind
  rename_i hi
  have hs:=O.cells elem hi
  have key:∀bb off,0<=j/\j < n->za9 X.P t (ptr bb off) (.int kd j)=some (ptr bb (off+j.toNat * sz X elem)):=λbb off hj=>by
   unfold za9
   grind[ptr,zat,zbz]
  split at w
  ·rename_i tag off T
   split at w
   rotate_left
   ·grind
   rename_i hT
   have w9:=w.1
   have hT:=Qb hT
   obtain⟨bb,cc,h1,rfl,h2⟩:=g
   exact⟨.pp tag elem,_,key _ _ w.1,by grind[gam,AtT.elem],hp,w.2⟩
  ·rename_i tag T
   split at w
   rotate_left
   ·grind
   rename_i hT
   have w9:=w.1
   have hT:=Qb hT
   obtain⟨bb,cc,off,h1,rfl,h2⟩:=g
   exact⟨.pp tag elem,_,key _ _ w.1,by grind[gam,AtT.elem],hp,w.2⟩
  ·split at w
   rotate_left
   ·grind
   rename_i hT
   have w9:=w.1
   have hT:=Qb hT
   obtain⟨bb,off,ro,ee,cc,rfl,h1,h2,h3⟩:=g
   exact⟨_,_,key _ _ w.1,by grind[gam,AtT.elem],zaE rfl,w.2⟩
  ·split at w
   rotate_left
   ·grind
   rename_i hT
   have w9:=w.1
   simp only[Qd,QJ] at hT
   obtain⟨hT,hd⟩:=hT
   have hT:=Qb hT
   subst hT
   simp only[gam,zbr,hd] at g
   obtain⟨bb,cc,rfl,h1,h2⟩:=g
   exact⟨_,_,key _ _ w.1,by exact⟨bb,_,_,_,cc,rfl,h1,h2.elem O hu (by omega),λ_=>rfl,λq=>by grind⟩,zaE rfl,w.2⟩
  grind
 ·rename_i elem hu
  split at w
  ·grind
  rename_i hi
  have key:∀bb off n c T,zcj X T elem=true->0<=j/\j < (n:Nat)->za9 X.P t (.slice (some ⟨bb,off,none⟩) n c) (.int kd j)=some (ptr bb (off+j.toNat * sz X T)):=λbb off n c T hT hj=>by
   unfold za9
   grind[zat,zbz,zd7]
  split at w
  ·rename_i w' fr kc T n
   split at w
   rotate_left
   ·grind
   rename_i hT
   have w9:=w.1
   obtain⟨hn,p,cp,rfl,g⟩:=g
   rcases g with ⟨_,h0,_⟩ | ⟨bb,off,ro,ee,cc,rfl,h1,h2,h3,h4,h5⟩
   ·omega
   ·exact⟨_,_,key _ _ _ _ T hT w.1,by grind[gam],zaE rfl,w.2⟩
  ·rename_i tag T n kc
   split at w
   rotate_left
   ·grind
   rename_i hT
   have w9:=w.1
   obtain⟨hn,p,cp,rfl,g⟩:=g
   rcases g with ⟨_,h0,_⟩ | ⟨bb,cc,cs,ee,rfl,h1,h2,h3,h4⟩
   ·omega
   ·exact⟨.pp tag T,_,key _ _ _ _ T hT w.1,by grind[gam],hp,w.2⟩
  ·rename_i tag T n
   split at w
   rotate_left
   ·grind
   rename_i hT
   have w9:=w.1
   obtain⟨hn,bb,cc,off,cp,rfl,h1,h2,h3,h4⟩:=g
   exact⟨.pp tag T,_,key _ _ _ _ T hT w.1,by grind[gam],hp,w.2⟩
  ·rename_i l
   split at w
   rotate_left
   ·grind
   rename_i lo hi2 hck
   have w9:=w.1
   obtain⟨_,bb,off,cp,ro,ee,cs,rfl,h1,h2,h3,h4⟩:=g
   have hs1:=zvc O hck hi
   have hx:l[j.toNat]?= some (zfT l j):=by grind[zfT]
   exact⟨.xp (zfT l j),_,key _ _ _ _ elem (znG elem) w.1,by grind[gam],zaE rfl,w.2⟩
  grind
 grind
theorem zmj (O:XOk X) {t:TypeId} {x i:TV} {q:TV->Prop} (w:zrS X t x i q) {a b:Value} (g:gam X S h L base x a) (gi:gam X S h L base i b):zfz X S h L base (zdG X.P t a b) q:=by
 unfold zrS at w
 split at w
 rotate_left
 ·grind
 rename_i kd j
 obtain⟨rfl,_⟩:=gi
 split at w
 ·split at w
  rotate_left
  ·grind
  rename_i s
  obtain⟨rfl,_⟩:=g
  have w9:=w.1
  have hl:j.toNat < s.size:=by omega
  have e:zdG X.P t (.string s) (.int kd j)=some (.int .u8 ((s[j.toNat]'hl).toNat:Nat)):=by
   unfold zdG
   grind[zat]
  rw[e]
  have:InR .u8 (((s[j.toNat]'hl).toNat:Nat):Int):=by
   have:=UInt8.toNat_lt (s[j.toNat]'hl)
   constructor <;> simp only[kLo,kHi] <;> omega
  exact zaH this (w.2 _ this)
 ·rename_i n elem hu
  split at w
  rotate_left
  ·grind
  rename_i T
  split at w
  rotate_left
  ·grind
  rename_i hT hi
  have hT:=Qb hT
  subst hT
  obtain⟨vs,rfl,h1,h2⟩:=g
  have hs:=O.cells elem hi
  have w9:=w.1
  have ee:zdG X.P T (.agg vs.toArray) (.int kd j)=aPart X.P elem vs.toArray (j.toNat * sz X elem):=by
   unfold zdG
   grind[zat,zbz]
  rw[ee]
  exact zmh O w.2 λi ct hc=>h2 _ _ (O.elem T n elem hu _ (by omega) i ct hc)
 grind
def zp3 (x:Option Value) (d i:Int):Prop:=(x=none/\i=d)\/∃k,x=some (.int k i)
theorem zbR (g:G X pu base S0 h0 S h L σ e) {x:Option Operand} {d:Int} {q:Int->Prop} (w:zrT σ.a x d q):∃i,q i/\zp3 (x.map (ev e)) d i:=by
 unfold zrT at w
 split at w
 ·exact⟨d,w,.inl ⟨rfl,rfl⟩⟩
 ·obtain⟨v,hv,w⟩:=zaq w
  split at w
  rotate_left
  ·grind
  rename_i kd i
  have:=(g.val hv).1
  simp only[gam] at this
  exact⟨i,w,.inr ⟨kd,by grind⟩⟩
theorem zb1 {k:IntKind} {i:Int} {y:Nat} (h1:0<=i) (h2:i<=y):zbl (.int k i) y=some i.toNat:=by grind[zbl]
theorem zb2 {len cap:Nat} {lo hi:Option Value} {l u:Int} (hl:zp3 lo 0 l) (hu:zp3 hi len u) (h1:0<=l) (h2:l<=u) (h3:u<=len) (h4:len<=cap):zbm len cap lo hi none=some (l.toNat,u.toNat,cap):=by
 unfold zbm
 rcases hu with ⟨rfl,rfl⟩ | ⟨k,rfl⟩
 ·rcases hl with ⟨rfl,rfl⟩ | ⟨k,rfl⟩
  all_goals grind[zb1]
 ·simp only
  rw[zb1 (by omega) (by omega)]
  rcases hl with ⟨rfl,rfl⟩ | ⟨k,rfl⟩
  all_goals grind[zb1]
theorem ziv {len cap:Nat} {lo:Option Value} {k k' : IntKind} {l u m:Int} (hl:zp3 lo 0 l) (h1:0<=l) (h2:l<=u) (h3:u<=m) (h4:m<=cap):zbm len cap lo (some (.int k u)) (some (.int k' m))=some (l.toNat,u.toNat,m.toNat):=by
 unfold zbm
 simp only
 rw[zb1 (by omega) h4]
 simp only
 rw[zb1 (by omega) (by omega)]
 rcases hl with ⟨rfl,rfl⟩ | ⟨k,rfl⟩
 all_goals grind[zb1]
theorem AtT.shift {cc:Nat->Option Nat} {off l T n:Nat} (a:∀j,j < n->AtT X cc (off+j * sz X T) T) {m:Nat} (hm:l+m<=n):∀j,j < m->AtT X cc (off+l * sz X T+j * sz X T) T:=λj hj=>by
 have:=a (l+j) (by omega)
 grind
theorem zoR (O:XOk X) {t elem T:Nat} (hu:und X t=some (.slice elem)) (hi:(inf X elem).isSome=true) (hT:zcj X T elem=true) {w fr kc:Bool} {n:Nat} {a:Value} (hw:WT X S σ.g h) (g:SlV X S base w fr kc T n a) {lo hi' : Option Value} {l u:Int} (hl:zp3 lo 0 l) (hh:zp3 hi' n u)
 (h1:0<=l) (h2:l<=u) (h3:u<=n):∃x,zay X.P h t a lo hi' none=some x/\SlV X S base w fr kc T (u - l).toNat x:=by
 obtain⟨hn,p,cp,rfl,g⟩:=g
 have hs:=zd7 O hT hi
 have hul:u.toNat - l.toNat=(u - l).toNat:=by omega
 rcases g with ⟨rfl,rfl,rfl⟩ | ⟨b,off,ro,ee,cc,rfl,g1,g2,g3,g4,g5⟩
 ·have hb:=zb2 (cap:=0) hl hh h1 h2 h3 (Qg _)
  refine⟨.slice none (u - l).toNat (0 - l.toNat),?_,by omega,none,_,rfl,by grind⟩
  unfold zay
  simp only[zat hu,hb]
  rw[if_pos ⟨zbz hi,by decide⟩,hul]
 ·have hn' : (u - l).toNat<=zbT:=by omega
  rcases g5 with ⟨q1,q2,q3⟩ | ⟨q1,q2,q3⟩
  ·have hb:=zb2 (cap:=cp) hl hh h1 h2 h3 q2
   refine⟨.slice (some ⟨b,if cp=l.toNat then off else off+l.toNat * X.P.cellsOf elem,none⟩) (u - l).toNat (cp - l.toNat),?_,hn',_,_,rfl,.inr ⟨b,_,ro,ee,cc,rfl,g1,?_,g3,g4,.inl ⟨by omega,by omega,?_⟩⟩⟩
   ·unfold zay
    grind[zat,zbz]
   ·intro j hj
    rw[if_neg (by omega),hs]
    exact AtT.shift (n:=n) g2 (m:=(u - l).toNat) (by omega) j hj
   ·intro hk j hj
    rw[if_neg (by omega),hs]
    exact AtT.shift (n:=cp) (q3 hk) (m:=cp - l.toNat) (by omega) j hj
  ·have hb:=zb2 (len:=n) (cap:=n) hl hh h1 h2 h3 (Qc _)
   obtain⟨k1,k2,cs,r,k3,k4,k5⟩:=hw.1 b _ _ _ g1
   refine⟨.slice (some ⟨b,off+l.toNat * X.P.cellsOf elem,none⟩) (u - l).toNat zai,?_,hn',_,_,rfl,.inr ⟨b,_,ro,ee,cc,rfl,g1,?_,g3,g4,by grind⟩⟩
   ·unfold zay
    grind[zat,zbz]
   ·intro j hj
    rw[hs]
    exact AtT.shift (n:=n) g2 (m:=(u - l).toNat) (by omega) j hj
theorem zmk (O:XOk X) {t elem T:Nat} (hu:und X t=some (.slice elem)) (hi:(inf X elem).isSome=true) (hT:zcj X T elem=true) {w fr kc:Bool} {n:Nat} {a:Value} (hw:WT X S σ.g h) (g:SlV X S base w fr kc T n a) {lo:Option Value} {kd kd' : IntKind} {l u m:Int} (hl:zp3 lo 0 l)
 (h1:0<=l) (h2:l<=u) (h3:u<=m) (h4:m<=n) (h5:0 < n):∃x,zay X.P h t a lo (some (.int kd u)) (some (.int kd' m))=some x/\SlV X S base w fr false T (u - l).toNat x:=by
 obtain⟨hn,p,cp,rfl,g⟩:=g
 have hs:=zd7 O hT hi
 have hul:u.toNat - l.toNat=(u - l).toNat:=by omega
 rcases g with ⟨rfl,rfl,rfl⟩ | ⟨b,off,ro,ee,cc,rfl,g1,g2,g3,g4,g5⟩
 ·omega
 ·have hn' : (u - l).toNat<=zbT:=by omega
  have hv:zbT < zai:=by decide
  have fin:∀j,j < (u - l).toNat->AtT X cc ((if m.toNat=l.toNat then off else off+l.toNat * X.P.cellsOf elem)+j * sz X T) T:=λj hj=>by
   rw[if_neg (by omega),hs]
   exact AtT.shift (n:=n) g2 (m:=(u - l).toNat) (by omega) j hj
  rcases g5 with ⟨q1,q2,q3⟩ | ⟨q1,q2,q3⟩
  ·have hb:=ziv (len:=n) (cap:=cp) (k:=kd) (k':=kd') hl h1 h2 h3 (by omega)
   refine⟨.slice (some ⟨b,if m.toNat=l.toNat then off else off+l.toNat * X.P.cellsOf elem,none⟩) (u - l).toNat (m.toNat - l.toNat),?_,hn',_,_,rfl,by grind⟩
   unfold zay
   grind[zat,zbz]
  ·have hb:=ziv (len:=n) (cap:=n) (k:=kd) (k':=kd') hl h1 h2 h3 (by omega)
   obtain⟨k1,k2,cs,r,k3,k4,k5⟩:=hw.1 b _ _ _ g1
   refine⟨.slice (some ⟨b,if m.toNat=l.toNat then off else off+l.toNat * X.P.cellsOf elem,none⟩) (u - l).toNat (m.toNat - l.toNat),?_,hn',_,_,rfl,by grind⟩
   unfold zay
   grind[zat,zbz]
theorem zfC (O:XOk X) {t arr n elem:Nat} (hu:zwq X t (und X t)=some (arr,n,elem)) (hi:(inf X elem).isSome=true) (hn:n<=big) {b off:Nat} {cc:Nat->Option Nat} (a:AtT X cc off arr) {lo hi' : Option Value} {l u:Int} (hl:zp3 lo 0 l) (hh:zp3 hi' n u)
 (h1:0<=l) (h2:l<=u) (h3:u<=n):∃off' cp,zay X.P h t (ptr b off) lo hi' none=some (.slice (some ⟨b,off',none⟩) (u - l).toNat cp)/\(u - l).toNat<=cp/\cp < zai/\(u - l).toNat<=zbT/\∀j,j < cp->AtT X cc (off'+ j * sz X elem) elem:=by
 have hb:=zb2 (len:=n) (cap:=n) hl hh h1 h2 h3 (Qc _)
 have hv:big < zai:=by decide
 have hv2:big<=zbT:=by decide
 have ha:und X arr=some (.array n elem)/\(und X t=some (.pointer arr)\/und X t=some (.array n elem)):=by
  unfold zwq at hu
  grind
 obtain⟨ha,hu⟩:=ha
 refine⟨if n=l.toNat then off else off+l.toNat * X.P.cellsOf elem,n - l.toNat,?_,by omega,by omega,by omega,λj hj=>?_⟩
 ·unfold zay
  grind[ptr,zat,zbz]
 ·rw[if_neg (by omega),O.cells elem hi]
  have:=a.elem O ha (j:=l.toNat+j) (by omega)
  grind
theorem zp4 (O:XOk X) {t:TypeId} {x:TV} {q:TV->Prop} (w:zxH X t x q) {a:Value} (g:gam X S h L base x a):zfz X S h L base (zjz X.P h t a) q:=by
 have rg:∀{n:Nat},n<=zbT->InR .i64 (n:Int):=λ{n} hn=>by
  have:(zbT:Int)<=kHi .i64:=by decide
  have h0:kLo .i64<=0:=by decide
  constructor <;> omega
 have hbv:big<=zbT:=by decide
 have hbv2:za8<=zbT:=by decide
 unfold zxH at w
 split at w
 ·rename_i hu
  split at w
  rotate_left
  ·grind
  simp only[gam] at g
  simp only[zjz,zat hu]
  grind[zaH]
 ·rename_i n el hu
  split at w
  rotate_left
  ·grind
  rename_i hn
  simp only[zjz,zat hu]
  exact zaH (rg (by have:=Qr hn; omega)) w
 ·rename_i arr hu
  split at w
  rotate_left
  ·grind
  rename_i n el ha
  split at w
  rotate_left
  ·grind
  rename_i hn
  simp only[zjz,zat hu,zat ha]
  exact zaH (rg (by have:=Qr hn; omega)) w
 ·rename_i el hu
  split at w
  ·obtain⟨hn,p,cp,rfl,_⟩:=g
   simp only[zjz,zat hu]
   exact zaH (rg hn) (w (by grind[zbT]))
  ·obtain⟨hn,p,cp,rfl,_⟩:=g
   simp only[zjz,zat hu]
   exact zaH (rg hn) (w (by grind[zbT]))
  ·obtain⟨hn,b,cc,off,cp,rfl,_⟩:=g
   simp only[zjz,zat hu]
   exact zaH (rg hn) (w (by grind[zbT]))
  ·subst g
   simp only[zjz,zat hu]
   exact zaH (rg (n:=0) (Qg _)) w
  ·obtain⟨hn,b,off,cp,_,_,_,rfl,_⟩:=g
   simp only[zjz,zat hu]
   exact zaH (rg hn) (w (by grind[zbT]))
  grind
 grind
end
end
end Go.Am
