/-
  Texts of this proof, part 21. No condition.
-/
import Derived.Test.YtmnbboleclchcaaGreatFTc3
set_option linter.unusedVariables false
set_option linter.unusedSimpArgs false
namespace Go.Am
section
variable {X:Cx}
theorem zaq {x:Option TV} {k:TV->Prop} (w:onV x k):∃v,x=some v/\k v:=by
 cases x with
 | none=>exact w.elim
 | some v=>exact⟨v,rfl,w⟩
section
variable {S:TY} {h:AH} {L:Loc} {base:Nat}
theorem ck_int {T:Nat} {k:IntKind} {lo hi:Int} (e:ck X T=.int k lo hi):(spN T=true/\k=.i64/\0<=lo/\hi<=1000000)\/(spN T=false/\lo=kLo k/\hi=kHi k/\und X T=some (.int k)):=by
 unfold ck at e
 unfold spN
 cases hb:Nat.beq T r4 with
 | true=>grind
 | false=>
   rw[hb] at e
   cases hx:exK T with
   | true=>
     rw[hx] at e
     unfold exK at hx
     rw[Qd] at hx
     have:=Qr hx.2
     grind
   | false=>grind[zug]
theorem zxL {x:Int} (h1:0<=x) (h2:x < 1000000):ck X (2000000+x.toNat)=.int .i64 x x:=by
 unfold ck
 have e1:Nat.beq (2000000+x.toNat) r4=false:=by grind[zjf,r4]
 have e2:exK (2000000+x.toNat)=true:=by
  unfold exK
  rw[Qd]
  exact⟨by simp,Nat.ble_eq_true_of_le (by omega)⟩
 rw[e1,e2]
 grind
theorem zuj:kLo .i64<=0/\(1000000:Int)<=kHi .i64:=by decide
theorem zdB {q:TV->Prop} (w:zoL q) (b:Bool):q (.bool b):=by cases b <;> first | exact w.1 | exact w.2
theorem zir {T:Nat} {k:TV->Prop} (w:zzd X T k) {x:Value} (o:okC X S T x):∃v,k v/\gam X S h L base v x/\tagsOf v=[]/\zbi x=true:=by
 unfold zzd at w
 unfold okC at o
 split at w
 ·rename_i kd lo hi hc
  rw[hc] at o
  obtain⟨y,rfl,h1,h2⟩:=o
  rcases ck_int hc with ⟨hb,rfl,q1,q2⟩ | ⟨hb,rfl,rfl,_⟩
  ·rw[hb] at w
   exact⟨_,w y h1 h2,by grind[gam,zuj],rfl,rfl⟩
  ·rw[hb] at w
   exact⟨_,w y ⟨h1,h2⟩,by grind[gam],rfl,rfl⟩
 ·rename_i hc
  rw[hc] at o
  obtain⟨b,rfl⟩:=o
  exact⟨_,zdB w b,by rfl,rfl,rfl⟩
 ·rename_i hc
  rw[hc] at o
  obtain⟨s,rfl,hs⟩:=o
  exact⟨_,w s hs,by grind[gam],rfl,rfl⟩
 ·rename_i t hc
  rw[hc] at o
  refine⟨_,w,by grind[gam],rfl,?_⟩
  simp only[zbr] at o
  split at o
  ·rw[o]; rfl
  ·obtain⟨b,c,rfl,_⟩:=o; rfl
 ·rename_i e hc
  rw[hc] at o
  obtain⟨n,hn,o⟩:=o
  refine⟨_,w n hn,by grind[gam,SlV.weak],rfl,?_⟩
  obtain⟨_,p,c,rfl,_⟩:=o; rfl
 ·rename_i e hc
  rw[hc] at o
  obtain⟨n,hn,o⟩:=o
  refine⟨_,w n hn,by grind[gam,SlV.weak],rfl,?_⟩
  obtain⟨_,p,c,rfl,_⟩:=o; rfl
 grind
theorem zfy:∀{Ts:List Nat} {k:List TV->Prop} (w:zxF X Ts k) {vs:List Value} (hl:vs.length=Ts.length) (o:∀(i:Nat) T,Ts[i]?= some T->∃v,vs[i]?= some v/\okC X S T v),∃l,k l/\gams X S h L base l vs/\tagsOfL l=[]/\∀x∈vs,zbi x=true
 | [],k,w,[],_,_=>⟨[],w,by grind[gams],rfl,by simp⟩
 | [],k,w,_ :: _,hl,_=>by grind
 | T :: Ts,k,w,[],hl,_=>by grind
 | T :: Ts,k,w,v :: vs,hl,o=>by
   obtain⟨x,hx,ox⟩:=o 0 T rfl
   simp at hx
   subst hx
   obtain⟨t,ht,g1,g2,g3⟩:=zir w ox
   obtain⟨l,hk,g4,g5,g6⟩:=zfy ht (vs:=vs) (by grind) λi T hT=>by simpa using o (i+1) T (by grind)
   refine⟨t :: l,hk,by exact⟨g1,g4⟩,by grind[tagsOfL],λy hy=>?_⟩
   grind
theorem zkL {T:Nat} {v:TV} {q:Prop} (w:fit X T v q) {x:Value} (g:gam X S h L base v x):q/\okC X S T x/\zbi x=true:=by
 unfold fit at w
 unfold okC
 split at w
 ·rename_i kd lo hi hc
  rw[hc]
  split at w
  rotate_left
  ·grind
  rename_i k' y
  split at w
  rotate_left
  ·grind
  rename_i hk
  have hk:=of_decide_eq_true hk
  subst hk
  obtain⟨rfl,g1,g2⟩:=g
  rcases ck_int hc with ⟨hb,rfl,q1,q2⟩ | ⟨hb,rfl,rfl,_⟩
  ·rw[hb] at w
   exact⟨w.2,⟨y,rfl,w.1⟩,rfl⟩
  ·rw[hb] at w
   exact⟨w,by grind,rfl⟩
 ·rename_i hc
  rw[hc]
  split at w
  rotate_left
  ·grind
  exact⟨w,⟨_,g⟩,by rw[g]; rfl⟩
 ·rename_i hc
  rw[hc]
  split at w
  rotate_left
  ·grind
  exact⟨w,⟨_,g⟩,by rw[g.1]; rfl⟩
 ·rename_i t hc
  rw[hc]
  split at w
  rotate_left
  ·grind
  split at w
  rotate_left
  ·grind
  rename_i hb
  have hb:=Qb hb
  subst hb
  simp only[gam] at g
  refine⟨w,g,?_⟩
  simp only[zbr] at g
  split at g
  ·rw[g]; rfl
  ·obtain⟨b,c,rfl,_⟩:=g; rfl
 ·rename_i e hc
  rw[hc]
  split at w
  ·split at w
   rotate_left
   ·grind
   rename_i hb
   have hb:=Qb hb
   simp only[gam] at g
   refine⟨w.2,⟨_,w.1,by grind[SlV.weak]⟩,?_⟩
   obtain⟨_,p,c,rfl,_⟩:=g; rfl
  ·exact⟨w,⟨0,Qg _,Qg _,none,0,g,by simp⟩,by rw[g]; rfl⟩
  grind
 ·rename_i e hc
  rw[hc]
  split at w
  ·split at w
   rotate_left
   ·grind
   rename_i hb
   have hb:=Qb hb
   simp only[gam] at g
   refine⟨w.2,⟨_,w.1,by grind[SlV.weak]⟩,?_⟩
   obtain⟨_,p,c,rfl,_⟩:=g; rfl
  ·exact⟨w,⟨0,Qg _,Qg _,none,0,g,by simp⟩,by rw[g]; rfl⟩
  grind
 grind
theorem zd4:∀{Ts:List Nat} {l:List TV} {q:Prop} (w:zxe X Ts l q) {vs:List Value} (g:gams X S h L base l vs),q/\vs.length=Ts.length/\(∀(i:Nat) T,Ts[i]?= some T->∃v,vs[i]?= some v/\okC X S T v)/\∀x∈vs,zbi x=true
 | [],[],q,w,[],_=>⟨w,rfl,by simp,by simp⟩
 | [],[],q,w,_ :: _,g=>by grind[gams]
 | T :: Ts,v :: l,q,w,[],g=>by grind[gams]
 | T :: Ts,v :: l,q,w,x :: vs,g=>by
   obtain⟨w1,o,m⟩:=zkL w g.1
   obtain⟨hq,hl,ho,hm⟩:=zd4 w1 g.2
   grind
def zdk (X:Cx) (S:TY) (T:Nat) (x:Value):Prop:=x.cells.toList.length=sz X T/\zau X S (zcO X T) x.cells.toList/\(∀y∈x.cells.toList,zbi y=true)/\∀xs,x≠.tuple xs
theorem zcC (vs:List Value):(Value.agg vs.toArray).cells.toList=vs:=by rfl
theorem zdl {x:Value} (h:zbi x=true):x.cells.toList=[x]:=by cases x <;> first | rfl | grind[zbi]
theorem zuk {T:Nat} {x:Value} (o:okC X S T x):zbi x=true:=by
 unfold okC at o
 split at o
 ·obtain⟨_,rfl,_⟩:=o; rfl
 ·obtain⟨_,rfl⟩:=o; rfl
 ·obtain⟨_,rfl,_⟩:=o; rfl
 ·simp only[zbr] at o
  split at o
  ·rw[o]; rfl
  ·obtain⟨b,c,rfl,_⟩:=o; rfl
 ·obtain⟨n,_,_,p,c,rfl,_⟩:=o; rfl
 ·obtain⟨n,_,_,p,c,rfl,_⟩:=o; rfl
 grind
theorem ze2 {T:Nat} {vs:List Value} (hl:vs.length=sz X T) (o:zau X S (zcO X T) vs):∀x∈vs,zbi x=true:=by
 intro x hx
 obtain⟨i,hi,rfl⟩:=Jg hx
 have hT:(X.fl T)[i]?= some (X.fl T)[i]:=by simp
 obtain⟨v,h1,h2⟩:=o i _ hT
 grind[zuk]
theorem zbE (O:XOk X) {T:Nat} {v:TV} {q:Prop} (w:zpY X T v q) {x:Value} (g:gam X S h L base v x):q/\zdk X S T x/\(isAgg X T=some true->∃vs,x=.agg vs):=by
 have one:∀{v:TV},(match isAgg X T with | some true=>False | _=>(match X.fl T with | [T']=>(match Nat.beq T T' with | true=>fit X T v q | false=>False) | _=>False))->gam X S h L base v x->q/\zdk X S T x/\(isAgg X T=some true->∃vs,x=.agg vs):=by
  intro v w g
  split at w
  ·grind
  split at w
  rotate_left
  ·grind
  split at w
  rotate_left
  ·grind
  rename_i hb
  have hb:=Qb hb
  obtain⟨hq,ho,hm⟩:=zkL w g
  refine⟨hq,?_,by grind⟩
  unfold zdk
  rw[zdl hm]
  refine⟨by grind[sz],λi T2 e=>?_,by grind,λxs e=>by rw[e] at hm; cases hm⟩
  grind[zcO]
 unfold zpY at w
 split at w
 ·grind[Qb,gam,zdk,zcC,ze2]
 ·split at w
  rotate_left
  ·grind
  obtain⟨vs,rfl,h1,h2⟩:=g
  obtain⟨hq,hl,ho,hm⟩:=zd4 w h1
  refine⟨hq,?_,by simp⟩
  unfold zdk
  exact⟨hl,ho,hm,by simp⟩
 grind
def zrY:TV->Prop | .tup _=>False | .fn _ _ _=>False | .skip=>False | .any=>False | .agg _=>False | .aggT _=>False | _=>True
theorem zmg {v:TV} {x:Value} (g:gam X S h L base v x) (hv:zrY v):zbi x=true:=by
 cases v <;> simp only[gam] at g <;> try exact hv.elim
 case int=>rw[g.1]; rfl
 case bool=>rw[g]; rfl
 case str=>rw[g.1]; rfl
 case nilp=>rw[g]; rfl
 case nils=>rw[g]; rfl
 case loc=>obtain⟨b,c,_,rfl,_⟩:=g; rfl
 case pp=>obtain⟨b,c,off,_,rfl,_⟩:=g; rfl
 case cp=>obtain⟨b,off,ro,e,c,rfl,_⟩:=g; rfl
 case hp=>
  simp only[zbr] at g
  split at g
  ·rw[g]; rfl
  ·obtain⟨b,c,rfl,_⟩:=g; rfl
 case np T z=>
  cases z
  ·simp only[zbr] at g
   split at g
   ·rw[g]; rfl
   ·obtain⟨b,c,rfl,_⟩:=g; rfl
  ·rw[g]; rfl
 case sl=>obtain⟨_,p,c,rfl,_⟩:=g; rfl
 case ap=>obtain⟨_,p,c,rfl,_⟩:=g; rfl
 case sp=>obtain⟨_,b,c,off,cp,rfl,_⟩:=g; rfl
 case xs=>obtain⟨_,b,off,c,ro,e,cs,rfl,_⟩:=g; rfl
 case xp=>obtain⟨b,off,ro,e,cs,rfl,_⟩:=g; rfl
theorem zis {t:TypeId} {v:TV} {k:List TV->Prop} (w:zoM X t v k) {x:Value} (g:gam X S h L base v x) (hf:tagsOf v=[]):∃l,k l/\gams X S h L base l x.cells.toList/\x.cells.toList.length=sz X t/\(∀y∈x.cells.toList,zbi y=true)/\tagsOfL l=[]/\∀xs,x≠.tuple xs:=by
 have one:∀{v:TV},zrY v->tagsOf v=[]->(match isAgg X t,Nat.beq (sz X t) 1 with | some false,true=>k [v] | _,_=>False)->gam X S h L base v x->∃l,k l/\gams X S h L base l x.cells.toList/\x.cells.toList.length=sz X t/\(∀y∈x.cells.toList,zbi y=true)/\tagsOfL l=[]/\∀xs,x≠.tuple xs:=by
  intro v hv hf w g
  have hm:=zmg g hv
  split at w
  rotate_left
  ·grind
  rw[zdl hm]
  exact⟨[v],w,by grind[gams],by grind[Qb],by grind,by grind[tagsOfL],λxs e=>by rw[e] at hm; cases hm⟩
 unfold zoM at w
 split at w
 ·split at w
  rotate_left
  ·grind
  rename_i T hb ha
  have hb:=Qb hb
  subst hb
  obtain⟨vs,rfl,h1,h2⟩:=g
  rw[zcC]
  obtain⟨l,hk,g1,g2,g3⟩:=zfy (h:=h) (L:=L) (base:=base) w h1 h2
  grind
 ·grind[gam,zcC,zbH,Qb,tagsOf]
 ·grind
 ·grind
 ·grind
 ·grind
 ·refine one ?_ hf w g
  cases v <;> first | trivial | grind
end
end
section
variable {X:Cx} {S S' : TY} {h:AH} {L:Loc} {base:Nat}
mutual
theorem zrZ {tag b0 e0:Nat} {t:Option Nat} {c0:Nat->Option Nat} (l:Le2 S S') (hL:L tag=some (b0,c0)) (hS:S'.ty b0=some (false,e0,c0)) (hb:base<=b0) (ht:∀u,t=some u->e0=u/\Nat.beq u X.dt=false) (hg:∃cs,h.get b0=some (.cells cs e0 false)):
 ∀(v:TV) (x:Value),gam X S h L base v x->gam X S' h L base (zcY tag t v) x
 | .loc g off T,x,w=>by
   simp only[zcY]
   cases hq:Nat.beq g tag with
   | false=>exact zbv l _ _ (λ_ _=>rfl) (λ_ _ _ _ _=>zck.of rfl) w
   | true=>
     have hq:=Qb hq
     subst hq
     simp only[gam] at w
     obtain⟨b,c,h1,rfl,h2⟩:=w
     rw[hL] at h1
     cases h1
     simp only
     cases hh:zzc off T t with
     | false=>simp only[gam]; exact⟨b0,off,false,e0,c0,rfl,hS,h2,λ_=>rfl,λ_=>hb⟩
     | true=>
       unfold zzc at hh
       cases t with
       | none=>cases hh
       | some u=>
         simp only[Qd] at hh
         have e1:=Qb hh.1
         have e2:=Qb hh.2
         obtain⟨e3,e4⟩:=ht u rfl
         subst e1; subst e2; subst e3
         simp only[gam,zbr,e4]
         exact⟨b0,c0,rfl,hS,h2⟩
 | .pp g T,x,w=>by
   simp only[zcY]
   cases hq:Nat.beq g tag with
   | false=>exact zbv l _ _ (λ_ _=>rfl) (λ_ _ _ _ _=>zck.of rfl) w
   | true=>
     have hq:=Qb hq
     subst hq
     simp only[gam] at w ⊢
     obtain⟨b,c,off,h1,rfl,h2⟩:=w
     rw[hL] at h1
     cases h1
     exact⟨b0,off,false,e0,c0,rfl,hS,h2,λ_=>rfl,λ_=>hb⟩
 | .ap g T n kc,x,w=>by
   simp only[zcY]
   cases hq:Nat.beq g tag with
   | false=>exact zbv l _ _ (λ_ _=>rfl) (λ_ _ _ _ _=>zck.of rfl) w
   | true=>
     have hq:=Qb hq
     subst hq
     simp only[gam] at w ⊢
     obtain⟨hn,p,cp,rfl,w⟩:=w
     refine⟨hn,p,cp,rfl,?_⟩
     rcases w with w | ⟨b,c,cs,e,rfl,h1,h2,h3,h4⟩
     ·exact .inl w
     ·rw[hL] at h1
      cases h1
      obtain⟨cs',hg⟩:=hg
      rw[hg] at h2
      cases h2
      rcases h4 with ⟨q1,q2,q3,q4⟩ | ⟨q1,q2,q3,q4⟩
      ·exact .inr ⟨b0,0,false,e0,c0,rfl,hS,λj hj=>by rw[Qq]; exact q4 j hj,λ_=>rfl,λ_=>hb,.inr ⟨q1,q2,h3⟩⟩
      ·exact .inr ⟨b0,0,false,e0,c0,rfl,hS,λj hj=>by rw[Qq]; exact q4 j (Qi hj q2),λ_=>rfl,λ_=>hb,.inl ⟨q1,q2,λ_ j hj=>by rw[Qq]; exact q4 j hj⟩⟩
 | .sp g T n,x,w=>by
   simp only[zcY]
   cases hq:Nat.beq g tag with
   | false=>exact zbv l _ _ (λ_ _=>rfl) (λ_ _ _ _ _=>zck.of rfl) w
   | true=>
     have hq:=Qb hq
     subst hq
     simp only[gam] at w ⊢
     obtain⟨hn,b,c,off,cp,rfl,h1,h2,h3,h4⟩:=w
     rw[hL] at h3
     cases h3
     exact⟨hn,_,_,rfl,.inr ⟨b0,off,false,e0,c0,rfl,hS,λj hj=>h4 j (Qi hj h1),λ_=>rfl,λ_=>hb,.inl ⟨h2,h1,λ_=>h4⟩⟩⟩
 | .fn f a c,x,w=>by
   simp only[zcY,gam] at w ⊢
   obtain⟨va,vc,h1,h2,h3⟩:=w
   exact⟨va,vc,h1,gams_pub l hL hS hb ht hg a va h2,gams_pub l hL hS hb ht hg c vc h3⟩
 | .agg q,x,w=>by
   simp only[zcY,gam] at w ⊢
   obtain⟨vs,h1,h2,h3⟩:=w
   exact⟨vs,h1,gams_pub l hL hS hb ht hg q vs h2,h3⟩
 | .tup q,x,w=>by
   simp only[zcY,gam] at w ⊢
   obtain⟨vs,h1,h2,h3⟩:=w
   exact⟨vs,h1,h2,gams_pub l hL hS hb ht hg q vs h3⟩
 | .int _ _,x,w=>zbc l rfl w
 | .bool _,x,w=>zbc l rfl w
 | .str _,x,w=>zbc l rfl w
 | .nilp,x,w=>zbc l rfl w
 | .nils,x,w=>zbc l rfl w
 | .cp _ _ _,x,w=>zbc l rfl w
 | .hp _,x,w=>zbc l rfl w
 | .np _ _,x,w=>zbc l rfl w
 | .sl _ _ _ _ _,x,w=>zbc l rfl w
 | .xs _,x,w=>zbc l rfl w
 | .xp _,x,w=>zbc l rfl w
 | .aggT _,x,w=>zbc l rfl w
 | .skip,x,w=>zbc l rfl w
 | .any,x,w=>zbc l rfl w
theorem gams_pub {tag b0 e0:Nat} {t:Option Nat} {c0:Nat->Option Nat} (l:Le2 S S') (hL:L tag=some (b0,c0)) (hS:S'.ty b0=some (false,e0,c0)) (hb:base<=b0) (ht:∀u,t=some u->e0=u/\Nat.beq u X.dt=false) (hg:∃cs,h.get b0=some (.cells cs e0 false)):
 ∀(vs:List TV) (xs:List Value),gams X S h L base vs xs->gams X S' h L base (pubL tag t vs) xs
 | [],[],_=>by simp only[pubL,gams]
 | [],_ :: _,w=>by simp[gams] at w
 | _ :: _,[],w=>by simp[gams] at w
 | v :: vs,x :: xs,w=>by
   simp only[pubL,gams] at w ⊢
   exact⟨zrZ l hL hS hb ht hg v x w.1,gams_pub l hL hS hb ht hg vs xs w.2⟩
end
mutual
theorem zoP {tag:Nat} {t:Option Nat} (hL:L tag=none):∀(v:TV) (x:Value),gam X S h L base v x->gam X S h L base (zcY tag t v) x
 | .loc g off T,x,w=>by
   simp only[zcY]
   cases hq:Nat.beq g tag with
   | false=>exact w
   | true=>
     have hq:=Qb hq
     subst hq
     simp only[gam] at w
     obtain⟨b,c,h1,_⟩:=w
     rw[hL] at h1; cases h1
 | .pp g T,x,w=>by
   simp only[zcY]
   cases hq:Nat.beq g tag with
   | false=>exact w
   | true=>
     have hq:=Qb hq
     subst hq
     simp only[gam] at w
     obtain⟨b,c,off,h1,_⟩:=w
     rw[hL] at h1; cases h1
 | .ap g T n kc,x,w=>by
   simp only[zcY]
   cases hq:Nat.beq g tag with
   | false=>exact w
   | true=>
     have hq:=Qb hq
     subst hq
     simp only[gam] at w ⊢
     obtain⟨hn,p,cp,rfl,w⟩:=w
     refine⟨hn,p,cp,rfl,?_⟩
     rcases w with w | ⟨b,c,cs,e,rfl,h1,_⟩
     ·exact .inl w
     ·rw[hL] at h1; cases h1
 | .sp g T n,x,w=>by
   simp only[zcY]
   cases hq:Nat.beq g tag with
   | false=>exact w
   | true=>
     have hq:=Qb hq
     subst hq
     simp only[gam] at w
     obtain⟨hn,b,c,off,cp,rfl,h1,h2,h3,h4⟩:=w
     rw[hL] at h3; cases h3
 | .fn f a c,x,w=>by
   simp only[zcY,gam] at w ⊢
   obtain⟨va,vc,h1,h2,h3⟩:=w
   exact⟨va,vc,h1,gams_pub0 hL a va h2,gams_pub0 hL c vc h3⟩
 | .agg q,x,w=>by
   simp only[zcY,gam] at w ⊢
   obtain⟨vs,h1,h2,h3⟩:=w
   exact⟨vs,h1,gams_pub0 hL q vs h2,h3⟩
 | .tup q,x,w=>by
   simp only[zcY,gam] at w ⊢
   obtain⟨vs,h1,h2,h3⟩:=w
   exact⟨vs,h1,h2,gams_pub0 hL q vs h3⟩
 | .int _ _,x,w=>w
 | .bool _,x,w=>w
 | .str _,x,w=>w
 | .nilp,x,w=>w
 | .nils,x,w=>w
 | .cp _ _ _,x,w=>w
 | .hp _,x,w=>w
 | .np _ _,x,w=>w
 | .sl _ _ _ _ _,x,w=>w
 | .xs _,x,w=>w
 | .xp _,x,w=>w
 | .aggT _,x,w=>w
 | .skip,x,w=>w
 | .any,x,w=>w
theorem gams_pub0 {tag:Nat} {t:Option Nat} (hL:L tag=none):∀(vs:List TV) (xs:List Value),gams X S h L base vs xs->gams X S h L base (pubL tag t vs) xs
 | [],[],_=>by simp only[pubL,gams]
 | [],_ :: _,w=>by simp[gams] at w
 | _ :: _,[],w=>by simp[gams] at w
 | v :: vs,x :: xs,w=>by
   simp only[pubL,gams] at w ⊢
   exact⟨zoP hL v x w.1,gams_pub0 hL vs xs w.2⟩
end
mutual
theorem zht {tag:Nat} {t:Option Nat} {u:Nat}:∀(v:TV),u∈tagsOf (zcY tag t v)->u∈tagsOf v/\u≠tag
 | .loc g off T,w=>by
   simp only[zcY] at w
   cases hq:Nat.beq g tag with
   | false=>rw[hq] at w; simp[tagsOf] at w ⊢; exact⟨w,λq=>by rw[<-w,q,QG] at hq; cases hq⟩
   | true=>rw[hq] at w; simp only at w; cases hh:zzc off T t <;> rw[hh] at w <;> simp[tagsOf] at w
 | .pp g T,w=>by
   simp only[zcY] at w
   cases hq:Nat.beq g tag with
   | false=>rw[hq] at w; simp[tagsOf] at w ⊢; exact⟨w,λq=>by rw[<-w,q,QG] at hq; cases hq⟩
   | true=>rw[hq] at w; simp[tagsOf] at w
 | .ap g T n kc,w=>by
   simp only[zcY] at w
   cases hq:Nat.beq g tag with
   | false=>rw[hq] at w; simp[tagsOf] at w ⊢; exact⟨w,λq=>by rw[<-w,q,QG] at hq; cases hq⟩
   | true=>rw[hq] at w; simp[tagsOf] at w
 | .sp g T n,w=>by
   simp only[zcY] at w
   cases hq:Nat.beq g tag with
   | false=>rw[hq] at w; simp[tagsOf] at w ⊢; exact⟨w,λq=>by rw[<-w,q,QG] at hq; cases hq⟩
   | true=>rw[hq] at w; simp[tagsOf] at w
 | .fn f a c,w=>by
   simp only[zcY,tagsOf,QI] at w ⊢
   rcases w with w | w
   ·exact⟨.inl (tags_pubL a w).1,(tags_pubL a w).2⟩
   ·exact⟨.inr (tags_pubL c w).1,(tags_pubL c w).2⟩
 | .agg l,w=>by simp only[zcY,tagsOf] at w ⊢; exact tags_pubL l w
 | .tup l,w=>by simp only[zcY,tagsOf] at w ⊢; exact tags_pubL l w
 | .int _ _,w=>by simp[zcY,tagsOf] at w
 | .bool _,w=>by simp[zcY,tagsOf] at w
 | .str _,w=>by simp[zcY,tagsOf] at w
 | .nilp,w=>by simp[zcY,tagsOf] at w
 | .nils,w=>by simp[zcY,tagsOf] at w
 | .cp _ _ _,w=>by simp[zcY,tagsOf] at w
 | .hp _,w=>by simp[zcY,tagsOf] at w
 | .np _ _,w=>by simp[zcY,tagsOf] at w
 | .sl _ _ _ _ _,w=>by simp[zcY,tagsOf] at w
 | .xs _,w=>by simp[zcY,tagsOf] at w
 | .xp _,w=>by simp[zcY,tagsOf] at w
 | .aggT _,w=>by simp[zcY,tagsOf] at w
 | .skip,w=>by simp[zcY,tagsOf] at w
 | .any,w=>by simp[zcY,tagsOf] at w
theorem tags_pubL {tag:Nat} {t:Option Nat} {u:Nat}:∀(l:List TV),u∈tagsOfL (pubL tag t l)->u∈tagsOfL l/\u≠tag
 | [],w=>by simp[pubL,tagsOfL] at w
 | v :: l,w=>by
   simp only[pubL,tagsOfL,QI] at w ⊢
   rcases w with w | w
   ·exact⟨.inl (zht v w).1,(zht v w).2⟩
   ·exact⟨.inr (tags_pubL l w).1,(tags_pubL l w).2⟩
end
def zeI (S:TY) (b0:Nat) (q:Bool×TypeId×(Nat->Option Nat)):TY:={ S with ty:=λb=>if b=b0 then some q else S.ty b }
section
variable {pu:Bool} {S0:TY} {h0:AH} {σ:Sx} {e:Env}
def ztk (tag:Nat) (t:Option Nat) (σ:Sx):Sx:={ a:=zjq (λv=>some (zcY tag t v)) σ.a,pv:=zd0 tag σ.pv,g:=σ.g }
theorem G.pubSome (O:XOk X) (g:G X pu base S0 h0 S h L σ e) {tag b0 e0:Nat} {pc:PC} {t:Option Nat} {c0:Nat->Option Nat} {cs:List Value} (hpv:zaD σ.pv tag=some pc) (hL:L tag=some (b0,c0)) (hp:Prv S h base b0)
 (hg:h.get b0=some (.cells cs e0 false)) (hT:zau X S c0 cs) (ht:∀u,t=some u->e0=u/\Nat.beq u X.dt=false):
 G X pu base S0 h0 (zeI S b0 (false,e0,c0)) h L (ztk tag t σ) e/\Le2 S (zeI S b0 (false,e0,c0)):=by
 obtain⟨p1,p2,p3,p4⟩:=hp
 have l:Le2 S (zeI S b0 (false,e0,c0)):=⟨by grind[zeI],rfl⟩
 have hS:(zeI S b0 (false,e0,c0)).ty b0=some (false,e0,c0):=by simp[zeI]
 refine⟨⟨⟨λb ro ee c hb=>?_,g.wt.2.1,O.dS _ _ _ _ g.wt.2.2 rfl (λ_=>Iff.rfl)⟩,⟨λb q hq=>l.ty _ _ (g.ext.ty b q hq),λb hb=>?_,g.ext.dv,g.ext.dvo,g.ext.dev⟩,g.nx,g.fr,λu v hv=>?_,λu c hc=>?_,λt1 t2 q1 q2 b c1 c2 k1 k2=>?_⟩,l⟩
 ·simp only[zeI] at hb
  split at hb
  ·rename_i q
   subst q
   cases hb
   exact⟨p2,p4,cs,false,hg,λ_=>rfl,hT.mono l⟩
  ·obtain⟨q1,q2,cs',r,q3,q4,q5⟩:=g.wt.1 b ro ee c hb
   exact⟨q1,q2,cs',r,q3,q4,q5.mono l⟩
 ·simp only[zeI]
  rw[if_neg (by omega)]
  exact g.ext.old b hb
 ·simp only[ztk,zd3] at hv
  split at hv
  rotate_left
  ·grind
  rename_i v0 hv0
  cases hv
  obtain⟨x,k1,k2,k3⟩:=g.sl u v0 hv0
  refine⟨x,k1,by grind[zrZ],λw hw=>?_⟩
  obtain⟨r1,r2⟩:=zht v0 hw
  obtain⟨c,hc⟩:=k3 w r1
  grind[ztk,zbq]
 ·simp only[ztk] at hc
  rw[zbq] at hc
  split at hc
  ·grind
  rename_i hu
  have o:=g.pv u c hc
  have hP:∀b d,L u=some (b,d)->Prv S h base b->Prv (zeI S b0 (false,e0,c0)) h base b:=λb d hb ⟨k1,k2,k3,k4⟩=>⟨k1,k2,by
   simp only[zeI]
   rw[if_neg (λq=>hu (g.inj u tag _ _ b d c0 hc hpv hb (by grind)))]
   omega,k4⟩
  cases c with
  | tv t l'=>obtain⟨b,cs',k1,k2,k3,k4,k5,k6⟩:=o; exact⟨b,cs',k1,hP _ _ k1 k2,k3,zcf l k6 k4,k5,k6⟩
  | ty t=>obtain⟨b,cs',k1,k2,k3,k4⟩:=o; exact⟨b,cs',k1,hP _ _ k1 k2,k3,k4.mono l⟩
  | rows T e=>rcases o with o | ⟨b,c',cs',k1,k2,k3,k4⟩
              ·exact .inl o
              ·exact .inr ⟨b,c',cs',k1,hP _ _ k1 k2,k3,k4.mono l⟩
 ·simp only[ztk] at k1 k2
  rw[zbq] at k1 k2
  split at k1
  ·grind
  split at k2
  ·grind
  exact g.inj t1 t2 _ _ b c1 c2 k1 k2
theorem G.pubNone (g:G X pu base S0 h0 S h L σ e) {tag:Nat} {t:Option Nat} (hL:L tag=none):G X pu base S0 h0 S h L (ztk tag t σ) e:=by
 refine⟨g.wt,g.ext,g.nx,g.fr,λu v hv=>?_,λu c hc=>?_,λt1 t2 q1 q2 b c1 c2 k1 k2=>?_⟩
 ·simp only[ztk,zd3] at hv
  split at hv
  rotate_left
  ·grind
  rename_i v0 hv0
  cases hv
  obtain⟨x,k1,k2,k3⟩:=g.sl u v0 hv0
  refine⟨x,k1,zoP hL v0 x k2,λw hw=>?_⟩
  obtain⟨r1,r2⟩:=zht v0 hw
  obtain⟨c,hc⟩:=k3 w r1
  grind[ztk,zbq]
 ·grind[ztk,zbq,pv]
 ·simp only[ztk] at k1 k2
  rw[zbq] at k1 k2
  split at k1
  ·grind
  split at k2
  ·grind
  exact g.inj t1 t2 _ _ b c1 c2 k1 k2
def Pb (X:Cx) (pu:Bool) (base:Nat) (S0:TY) (h0:AH) (S:TY) (h:AH) (L:Loc) (e:Env) (k:Sx->Prop):Prop:=∃S' σ',G X pu base S0 h0 S' h L σ' e/\Le2 S S'/\k σ'
theorem G.pub1 (O:XOk X) (g:G X pu base S0 h0 S h L σ e) {tag:Nat} {k:Sx->Prop} (w:pub1 X tag σ k):Pb X pu base S0 h0 S h L e k:=by
 unfold Am.pub1 at w
 split at w
 ·rename_i t l hpv
  split at w
  ·grind
  obtain⟨b,cs,h1,h2,h3,h4,h5,h6⟩:=g.pv tag _ hpv
  obtain⟨hk,k1,k2,k3⟩:=zd4 w h4
  obtain⟨g',l'⟩:=g.pubSome O (t:=some t) hpv h1 h2 h3 k2 (by grind)
  exact⟨_,_,g',l',hk⟩
 ·rename_i t hpv
  split at w
  ·grind
  obtain⟨b,cs,h1,h2,h3,h4⟩:=g.pv tag _ hpv
  obtain⟨g',l'⟩:=g.pubSome O (t:=some t) hpv h1 h2 h3 h4 (by grind)
  exact⟨_,_,g',l',w⟩
 ·rename_i T e' hpv
  rcases g.pv tag _ hpv with h1 | ⟨b,c,cs,h1,h2,h3,h4⟩
  ·exact⟨_,_,g.pubNone h1,Le2.refl _,w⟩
  ·obtain⟨g',l'⟩:=g.pubSome O (t:=none) hpv h1 h2 h3 h4 (by simp)
   exact⟨_,_,g',l',w⟩
 grind
theorem G.pubs (O:XOk X):∀{ts:List Nat} {S:TY} {σ:Sx} {k:Sx->Prop},G X pu base S0 h0 S h L σ e->Am.pubs X ts σ k->Pb X pu base S0 h0 S h L e k
 | [],S,σ,k,g,w=>⟨S,σ,g,Le2.refl _,w⟩
 | t :: ts,S,σ,k,g,w=>by
   unfold Am.pubs at w
   split at w
   ·exact G.pubs O g w
   ·obtain⟨S1,σ1,g1,l1,w1⟩:=g.pub1 O w
    obtain⟨S2,σ2,g2,l2,w2⟩:=G.pubs O g1 w1
    exact⟨S2,σ2,g2,l1.trans l2,w2⟩
theorem G.openV (O:XOk X) (g:G X pu base S0 h0 S h L σ e) {x:Operand} {k:TV->Sx->Prop} (w:openV X σ x k):
 ∃S' σ' v,G X pu base S0 h0 S' h L σ' e/\Le2 S S'/\gam X S' h L base v (ev e x)/\tagsOf v=[]/\k v σ'/\∃v0,evT σ.a x=some v0/\(tagsOf v0=[]->S'= S/\σ'= σ):=by
 obtain⟨v,hv,w⟩:=zaq w
 cases ht0:tagsOf v with
 | nil=>
   rw[ht0] at w
   obtain⟨v1,hv1,w1⟩:=zaq w
   rw[hv] at hv1
   cases hv1
   rw[ht0] at w1
   exact⟨S,σ,v,g,Le2.refl _,(g.val hv).1,ht0,w1,v,hv,by simp⟩
 | cons a l=>
   obtain⟨S1,σ1,g1,l1,w1⟩:=g.pubs O w
   obtain⟨v1,hv1,w1⟩:=zaq w1
   split at w1
   rotate_left
   ·grind
   rename_i ht
   exact⟨S1,σ1,v1,g1,l1,(g1.val hv1).1,ht,w1,v,hv,λq=>by grind⟩
end
end
section
variable {X:Cx} {S S' : TY} {h:AH} {L:Loc} {base:Nat}
theorem zr0 {P:Program} {t:TypeId} {z:Bool} (h:aggT P t=some z):∃d,P.underlying t=some d:=by grind[aggT]
theorem XOk.isi (O:XOk X) {t:TypeId} {z:Bool} (h:isAgg X t=some z):(inf X t).isSome=true:=by grind[zr0,isAgg,info,und]
theorem zhu {t:TypeId} {z:Bool} (hi:(inf X t).isSome=true) (h:aggT X.P t=some z):isAgg X t=some z:=by grind[inf,isAgg]
theorem XOk.isz (O:XOk X) {t:TypeId} {z:Bool} (h:isAgg X t=some z):(X.P.info? t).isSome=true/\X.P.cellsOf t=sz X t:=by grind[zbz,isi,cells]
theorem AtT.le {c:Nat->Option Nat} {cs:List Value} {off T:Nat} (h:zau X S c cs) (a:AtT X c off T) (hp:0 < sz X T):off+sz X T<=cs.length:=by
 have hi:(X.fl T)[sz X T - 1]?= some ((X.fl T)[sz X T - 1]'(by grind[sz])):=by simp
 obtain⟨v,hv,_⟩:=h _ _ (a _ _ hi)
 grind
theorem zau.upd {c:Nat->Option Nat} {cs ms:List Value} {off T:Nat} (h:zau X S c cs) (a:AtT X c off T) (hl:off+ms.length<=cs.length) (hm:ms.length=sz X T) (ht:zau X S (zcO X T) ms):zau X S c (cs.take off ++ ms ++ cs.drop (off+ms.length)):=by
 intro i U hU
 have e1:(cs.take off).length=off:=by grind
 rw[QM]
 by_cases h1:i < off
 ·rw[QT (by omega),Ji,if_pos h1]
  exact h i U hU
 ·rw[Qu (by omega),e1]
  by_cases h2:i - off < ms.length
  ·rw[QT h2]
   have hi:(X.fl T)[i - off]?= some ((X.fl T)[i - off]'(by rw[hm] at h2; exact h2)):=Qe _
   have:=a _ _ hi
   rw[show off+(i - off)=i by omega,hU] at this
   cases this
   exact ht _ _ hi
  ·rw[Qu (by omega),QX,show off+ms.length+(i - off - ms.length)=i by omega]
   exact h i U hU
theorem ze3 {cs ms:List Value} {off:Nat} (hl:off+ms.length<=cs.length):(cs.take off ++ ms ++ cs.drop (off+ms.length)).length=cs.length:=by grind
theorem zd5 {x:Value} (h:zbi x=true):eqV x x=true:=by
 have:=zhl h
 cases x <;> first | (simp[zbi] at h; done) | exact this
theorem zoQ:∀{vs:List Value},(∀x∈vs,zbi x=true)->eqL vs vs=true
 | [],_=>rfl
 | v :: vs,h=>by simp only[eqL,zhl (h v (QO ..)),zoQ λx hx=>h x (QB _ hx),Bool.and_self]
theorem zr1 {vs:List Value} (h:∀x∈vs,zbi x=true):eqV (.agg vs.toArray) (.agg vs.toArray)=true:=by grind[eqV,zoQ]
theorem zr2 (O:XOk X) {T t:Nat} {k:TV->Prop} (w:zrN X T t k) {b off:Nat} {c:Nat->Option Nat} {cs:List Value} {ee:TypeId} {r:Bool} (hb:h.get b=some (.cells cs ee r)) (hT:zau X S c cs) (a:AtT X c off T):
 ∃v x,k v/\zbL X.P h t (ptr b off)=some x/\gam X S h L base v x/\tagsOf v=[]/\eqV x x=true:=by
 unfold zrN at w
 split at w
 ·rename_i ha
  split at w
  rotate_left
  ·grind
  rename_i hq
  have hq:=Qb hq
  have hs:=(O.isz ha).2
  have key:zau X S (zcO X T) ((cs.drop off).take (sz X T)):=λi U hU=>by
   obtain⟨v,h1,h2⟩:=hT _ _ (a i U hU)
   have:i < sz X T:=(Qo.1 hU).1
   grind
  have hle:off+sz X T<=cs.length\/sz X T=0:=by
   by_cases hp:0 < sz X T
   ·exact .inl (AtT.le hT a hp)
   omega
  rcases hle with hle | hz
  ·refine⟨_,.agg ((cs.drop off).take (sz X T)).toArray,w,?_,by grind[gam],rfl,zr1 (ze2 (by grind) key)⟩
   grind[zbL,ptr,zbG]
  grind[XOk.pos]
 ·split at w
  rotate_left
  ·grind
  have hf:X.fl T=[T]:=by grind[Qb,XOk.one,XOk.r4,XOk.sh]
  obtain⟨x,h1,h2⟩:=hT _ _ (a 0 T (by grind))
  obtain⟨v,k1,k2,k3,k4⟩:=zir (h:=h) (L:=L) (base:=base) w h2
  grind[zd5,zbL,ptr,zbG]
 grind
section
variable {pu:Bool} {S0:TY} {h0:AH} {σ:Sx} {e:Env}
theorem G.upd (g:G X pu base S0 h0 S h L σ e) {b:Nat} {cs cs' : List Value} {ee:TypeId} (hb:h.get b=some (.cells cs ee false)) (hl:cs'.length=cs.length)
 (hw:WT X S σ.g (h.set b (.cells cs' ee false))) (hf:base<=b\/(pu=false/\∃q,S.ty b=some q)) {pv' : List (Nat×PC)}
 (h1:∀tag c,zaD pv' tag=some c->okP X S (h.set b (.cells cs' ee false)) L base tag c/\∃c',zaD σ.pv tag=some c') (h2:∀tag c,zaD σ.pv tag=some c->∃c',zaD pv' tag=some c'):
 G X pu base S0 h0 S (h.set b (.cells cs' ee false)) L { σ with pv:=pv' } e where
 wt:=hw
 ext:=g.ext
 nx:=g.nx
 fr:=λd hd q=>by
  rw[AH.get_set]
  split
  ·rename_i hdb
   subst hdb
   rcases hf with hf | ⟨hf,w,hf2⟩
   ·omega
   ·rcases q with q | q
    ·grind
    ·rw[g.ext.old d hd,q.1] at hf2; grind
  grind[fr]
 sl:=λt v hv=>by
  obtain⟨x,k1,k2,k3⟩:=g.sl t v hv
  refine⟨x,k1,zbv (Le2.refl _) v x (λ_ _=>rfl) (λtag d c ht hL=>?_) k2,λtag ht=>?_⟩
  ·by_cases hdb:d=b
   ·intro cs2 e2 k
    grind[AH.get_set]
   grind[zck.of,AH.get_set]
  ·obtain⟨c,hc⟩:=k3 tag ht
   grind
 pv:=by grind
 inj:=λt1 t2 p1 p2 d c1 c2 k1 k2 k3 k4=>by
  obtain⟨_,q1⟩:=(h1 t1 _ k1).2
  obtain⟨_,q2⟩:=(h1 t2 _ k2).2
  exact g.inj t1 t2 _ _ d c1 c2 q1 q2 k3 k4
theorem G.others (g:G X pu base S0 h0 S h L σ e) {tag:Nat} {pc:PC} {b:Nat} {c0:Nat->Option Nat} (hpv:zaD σ.pv tag=some pc) (hL:L tag=some (b,c0)) (o:zca) {u:Nat} {c:PC} (hu:u≠tag) (hc:zaD σ.pv u=some c):okP X S (h.set b o) L base u c:=
 (g.pv u c hc).keep (Qc _) rfl λd q hd=>by
   rw[AH.get_set,if_neg]
   rintro rfl
   exact hu (g.inj u tag _ _ d q c0 hc hpv hd hL)
theorem G.stTv (O:XOk X) (g:G X pu base S0 h0 S h L σ e) {tag t:Nat} {l l' : List TV} {b:Nat} {c0:Nat->Option Nat} {cs cs' : List Value} (hpv:zaD σ.pv tag=some (.tv t l)) (hL:L tag=some (b,c0)) (hb:h.get b=some (.cells cs t false)) (hl:cs'.length=cs.length)
 (hg:gams X S h L base l' cs') (hm:∀x∈cs',zbi x=true) (ht:tagsOfL l'= []):G X pu base S0 h0 S (h.set b (.cells cs' t false)) L { σ with pv:=zpX σ.pv tag (.tv t l') } e:=by
 obtain⟨b2,cs2,k1,k2,k3,k4,k5,k6⟩:=g.pv tag _ hpv
 rw[hL] at k1
 cases k1
 refine g.upd hb hl (WT.keep O g.wt (Qc _) λd hd q=>?_) (.inl k2.1) (λu c hc=>?_) (λu c hc=>?_)
 ·rw[AH.get_set,if_neg]
  rintro rfl
  rcases q with ⟨q,hq⟩ | q
  ·rw[k2.2.2.1] at hq; grind
  ·exact k2.2.2.2 q
 ·rw[zio] at hc
  split at hc
  ·rename_i hu
   subst hu
   rw[hpv] at hc
   cases hc
   exact⟨⟨b,cs',hL,k2,by simp,zcf (Le2.refl _) ht hg,hm,ht⟩,_,hpv⟩
  grind[others]
 grind[zio]
theorem G.stTy (O:XOk X) (g:G X pu base S0 h0 S h L σ e) {tag:Nat} (hpv:zbC σ tag=true) {b:Nat} {c0:Nat->Option Nat} {cs cs' : List Value} {ee:TypeId} (hL:L tag=some (b,c0)) (hb:h.get b=some (.cells cs ee false)) (hl:cs'.length=cs.length)
 (hT:zau X S c0 cs'):G X pu base S0 h0 S (h.set b (.cells cs' ee false)) L σ e:=by
 unfold zbC at hpv
 have key:∃pc,zaD σ.pv tag=some pc/\okP X S (h.set b (.cells cs' ee false)) L base tag pc/\Prv S h base b:=by
  split at hpv
  ·rename_i t hp
   obtain⟨b2,cs2,k1,k2,k3,k4⟩:=g.pv tag _ hp
   rw[hL] at k1
   cases k1
   rw[hb] at k3
   cases k3
   exact⟨_,hp,⟨b,cs',hL,k2,by simp,hT⟩,k2⟩
  ·rename_i T e2 hp
   rcases g.pv tag _ hp with k1 | ⟨b2,c2,cs2,k1,k2,k3,k4⟩
   ·grind
   ·rw[hL] at k1
    cases k1
    rw[hb] at k3
    cases k3
    exact⟨_,hp,.inr ⟨b,c0,cs',hL,k2,by simp,hT⟩,k2⟩
  grind
 obtain⟨pc,hp,hok,k2⟩:=key
 have:=g.upd (pv':=σ.pv) hb hl (WT.keep O g.wt (Qc _) λd hd q=>by
  rw[AH.get_set,if_neg]
  rintro rfl
  rcases q with ⟨q,hq⟩ | q
  ·rw[k2.2.2.1] at hq; grind
  ·exact k2.2.2.2 q) (.inl k2.1) (by grind[others]) (by grind)
 omega
theorem G.stPub (O:XOk X) (g:G X pu base S0 h0 S h L σ e) {b:Nat} {ro:Bool} {ee ee' : TypeId} {c0:Nat->Option Nat} {cs cs' : List Value} (hS:S.ty b=some (ro,ee',c0)) (hb:h.get b=some (.cells cs ee false)) (hl:cs'.length=cs.length)
 (hT:zau X S c0 cs') (hf:base<=b\/pu=false):G X pu base S0 h0 S (h.set b (.cells cs' ee false)) L σ e:=by
 obtain⟨k1,k2,cs2,r,k3,k4,k5⟩:=g.wt.1 b _ _ _ hS
 rw[hb] at k3
 have hw:WT X S σ.g (h.set b (.cells cs' ee false)):=by
  refine⟨λd ro' e' c' hd=>?_,λd hd=>g.wt.2.1 d hd,O.dfr _ _ _ _ g.wt.2.2 (λd hd=>?_) (Qc _)⟩
  ·by_cases hdb:d=b
   ·simp_all
   ·rw[AH.get_set,if_neg hdb]
    exact g.wt.1 d _ _ _ hd
  grind[AH.get_set]
 exact g.upd (pv':=σ.pv) hb hl hw (by grind) (λu c hc=>⟨(g.pv u c hc).keep (Qc _) rfl λd q hd=>by
  rw[AH.get_set,if_neg]
  have:=((g.pv u c hc).prv hd).2.2.1
  grind,c,hc⟩) (by grind)
theorem G.typedBlk (g:G X pu base S0 h0 S h L σ e) {tag:Nat} (ht:zbC σ tag=true) {b:Nat} {c0:Nat->Option Nat} (hL:L tag=some (b,c0)):∃cs ee,h.get b=some (.cells cs ee false)/\zau X S c0 cs:=by
 unfold zbC at ht
 split at ht
 ·rename_i t hp
  obtain⟨b2,cs2,k1,k2,k3,k4⟩:=g.pv tag _ hp
  grind
 ·rename_i T e2 hp
  rcases g.pv tag _ hp with k1 | ⟨b2,c2,cs2,k1,k2,k3,k4⟩
  all_goals grind
 grind
theorem zd6 {t:TypeId} {b off:Nat} {v:Value} {cs:List Value} {ee:TypeId} (hb:h.get b=some (.cells cs ee false)) (hv:∀xs,v≠.tuple xs) (hi:(X.P.info? t).isSome=true) (hc:v.cells.toList.length=X.P.cellsOf t) (hl:off+v.cells.toList.length<=cs.length):
 zbM X.P h t (ptr b off) v=some (h.set b (.cells (cs.take off ++ v.cells.toList ++ cs.drop (off+v.cells.toList.length)) ee false)):=by
 have key:zbM X.P h t (ptr b off) v=if v.cells.size=X.P.cellsOf t/\(X.P.info? t).isSome=true then zap h b off v.cells.toList else none:=by
  unfold zbM ptr
  simp
 grind[zap]
end
end
end Go.Am
