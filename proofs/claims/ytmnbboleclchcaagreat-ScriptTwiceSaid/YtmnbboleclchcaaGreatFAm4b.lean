/-
  Texts of this proof, part 11. No condition.
-/
import Derived.Test.YtmnbboleclchcaaGreatFAm3j
set_option linter.unusedVariables false
set_option linter.unusedSimpArgs false
namespace Go.Am
section
variable {P:Program} {K:Xs} {e:Env} {h:AH}
def onS (y:Option (Value×AH)) (Q:Value->AH->Prop):Prop:=match y with | some z=>Q z.1 z.2 | none=>False
def ks (P:Program) (K:Xs) (ops:Array Oper) (os:List Oper) (d:Option Tmp) (e:Env) (Q:Env->AH->Prop):Value->AH->Prop:=λv h'=>Ws P K ops os (putO e d v) h' Q
def kc (P:Program) (K:Xs) (rd:Option Nat) (b:Code) (Q:AX->Env->AH->Prop):Env->AH->Prop:=λe h=>Wc P K rd b e h Q
def kn (Q:AX->Env->AH->Prop):Env->AH->Prop:=λe h=>Q .normal e h
theorem zb0 {o:Oper} {Q:Value->AH->Prop} (hc:zfp o.op=false):Wo P K o e h Q=onS (aOp P o e h) Q:=by
 cases ha:aOp P o e h with
 | none=>
   refine propext ⟨?_,λhq=>hq.elim⟩
   rintro⟨n,v1,h1,h2,h3⟩
   grind[zdw]
 | some y=>exact propext (zkn hc ha)
theorem zvR {dst:Option Tmp} (x:Operand) {t:TypeId} {p:String} {af:Array Edge} {gd:Option (Nat×Bool)} {Q:Value->AH->Prop}:Wo P K ⟨dst,.move x,t,p,af,gd⟩ e h Q=onS (aOp P ⟨dst,.move x,t,p,af,gd⟩ e h) Q:=zb0 rfl
theorem zqY {dst:Option Tmp} (x:Operand) {t:TypeId} {p:String} {af:Array Edge} {gd:Option (Nat×Bool)} {Q:Value->AH->Prop}:Wo P K ⟨dst,.assign x,t,p,af,gd⟩ e h Q=onS (aOp P ⟨dst,.assign x,t,p,af,gd⟩ e h) Q:=zb0 rfl
theorem zvS {dst:Option Tmp} (c a b:Operand) {t:TypeId} {p:String} {af:Array Edge} {gd:Option (Nat×Bool)} {Q:Value->AH->Prop}:Wo P K ⟨dst,.pick c a b,t,p,af,gd⟩ e h Q=onS (aOp P ⟨dst,.pick c a b,t,p,af,gd⟩ e h) Q:=zb0 rfl
theorem ztE {dst:Option Tmp} (ty:TypeId) {t:TypeId} {p:String} {af:Array Edge} {gd:Option (Nat×Bool)} {Q:Value->AH->Prop}:Wo P K ⟨dst,.alloc ty,t,p,af,gd⟩ e h Q=onS (aOp P ⟨dst,.alloc ty,t,p,af,gd⟩ e h) Q:=zb0 rfl
theorem zxs {dst:Option Tmp} (ty:TypeId) (x:Operand) {t:TypeId} {p:String} {af:Array Edge} {gd:Option (Nat×Bool)} {Q:Value->AH->Prop}:Wo P K ⟨dst,.box ty x,t,p,af,gd⟩ e h Q=onS (aOp P ⟨dst,.box ty x,t,p,af,gd⟩ e h) Q:=zb0 rfl
theorem ztF {dst:Option Tmp} (ty:TypeId) (ps:Array (Nat×Operand)) {t:TypeId} {p:String} {af:Array Edge} {gd:Option (Nat×Bool)} {Q:Value->AH->Prop}:Wo P K ⟨dst,.build ty ps,t,p,af,gd⟩ e h Q=onS (aOp P ⟨dst,.build ty ps,t,p,af,gd⟩ e h) Q:=zb0 rfl
theorem zko {dst:Option Tmp} (ty:TypeId) (n:Nat) (ps:Array (Nat×Operand)) {t:TypeId} {p:String} {af:Array Edge} {gd:Option (Nat×Bool)} {Q:Value->AH->Prop}:Wo P K ⟨dst,.buildSlice ty n ps,t,p,af,gd⟩ e h Q=onS (aOp P ⟨dst,.buildSlice ty n ps,t,p,af,gd⟩ e h) Q:=zb0 rfl
theorem zvT {dst:Option Tmp} (ty:TypeId) (x:Operand) {t:TypeId} {p:String} {af:Array Edge} {gd:Option (Nat×Bool)} {Q:Value->AH->Prop}:Wo P K ⟨dst,.load ty x,t,p,af,gd⟩ e h Q=onS (aOp P ⟨dst,.load ty x,t,p,af,gd⟩ e h) Q:=zb0 rfl
theorem ztG {dst:Option Tmp} (ty:TypeId) (x y:Operand) {t:TypeId} {p:String} {af:Array Edge} {gd:Option (Nat×Bool)} {Q:Value->AH->Prop}:Wo P K ⟨dst,.store ty x y,t,p,af,gd⟩ e h Q=onS (aOp P ⟨dst,.store ty x y,t,p,af,gd⟩ e h) Q:=zb0 rfl
theorem zne {dst:Option Tmp} (x:Operand) {t:TypeId} {p:String} {af:Array Edge} {gd:Option (Nat×Bool)} {Q:Value->AH->Prop}:Wo P K ⟨dst,.nilCheck x,t,p,af,gd⟩ e h Q=onS (aOp P ⟨dst,.nilCheck x,t,p,af,gd⟩ e h) Q:=zb0 rfl
theorem ztH {dst:Option Tmp} (op:BinOp) (ty:TypeId) (x y:Operand) (yt:TypeId) {t:TypeId} {p:String} {af:Array Edge} {gd:Option (Nat×Bool)} {Q:Value->AH->Prop}:Wo P K ⟨dst,.binOp op ty x y yt,t,p,af,gd⟩ e h Q=onS (aOp P ⟨dst,.binOp op ty x y yt,t,p,af,gd⟩ e h) Q:=zb0 rfl
theorem zvU {dst:Option Tmp} (op:UnOp) (ty:TypeId) (x:Operand) {t:TypeId} {p:String} {af:Array Edge} {gd:Option (Nat×Bool)} {Q:Value->AH->Prop}:Wo P K ⟨dst,.unOp op ty x,t,p,af,gd⟩ e h Q=onS (aOp P ⟨dst,.unOp op ty x,t,p,af,gd⟩ e h) Q:=zb0 rfl
theorem zpE {dst:Option Tmp} (s d:TypeId) (x:Operand) {t:TypeId} {p:String} {af:Array Edge} {gd:Option (Nat×Bool)} {Q:Value->AH->Prop}:Wo P K ⟨dst,.convert s d x,t,p,af,gd⟩ e h Q=onS (aOp P ⟨dst,.convert s d x,t,p,af,gd⟩ e h) Q:=zb0 rfl
theorem znf {dst:Option Tmp} (fn:Fn) (a b:Array Operand) {t:TypeId} {p:String} {af:Array Edge} {gd:Option (Nat×Bool)} {Q:Value->AH->Prop}:Wo P K ⟨dst,.makeFunc fn a b,t,p,af,gd⟩ e h Q=onS (aOp P ⟨dst,.makeFunc fn a b,t,p,af,gd⟩ e h) Q:=zb0 rfl
theorem zpF {dst:Option Tmp} (ty:TypeId) (r:Option Operand) {t:TypeId} {p:String} {af:Array Edge} {gd:Option (Nat×Bool)} {Q:Value->AH->Prop}:Wo P K ⟨dst,.makeMap ty r,t,p,af,gd⟩ e h Q=onS (aOp P ⟨dst,.makeMap ty r,t,p,af,gd⟩ e h) Q:=zb0 rfl
theorem zlJ {dst:Option Tmp} (ty:TypeId) (l c:Operand) {t:TypeId} {p:String} {af:Array Edge} {gd:Option (Nat×Bool)} {Q:Value->AH->Prop}:Wo P K ⟨dst,.makeSlice ty l c,t,p,af,gd⟩ e h Q=onS (aOp P ⟨dst,.makeSlice ty l c,t,p,af,gd⟩ e h) Q:=zb0 rfl
theorem ztI {dst:Option Tmp} (ty:TypeId) (x:Operand) (lo hi mx:Option Operand) {t:TypeId} {p:String} {af:Array Edge} {gd:Option (Nat×Bool)} {Q:Value->AH->Prop}:Wo P K ⟨dst,.slice ty x lo hi mx,t,p,af,gd⟩ e h Q=onS (aOp P ⟨dst,.slice ty x lo hi mx,t,p,af,gd⟩ e h) Q:=zb0 rfl
theorem zlK {dst:Option Tmp} (ty:TypeId) (x:Operand) (f:Nat) {t:TypeId} {p:String} {af:Array Edge} {gd:Option (Nat×Bool)} {Q:Value->AH->Prop}:Wo P K ⟨dst,.fieldAddr ty x f,t,p,af,gd⟩ e h Q=onS (aOp P ⟨dst,.fieldAddr ty x f,t,p,af,gd⟩ e h) Q:=zb0 rfl
theorem ztJ {dst:Option Tmp} (ty:TypeId) (x:Operand) (f:Nat) {t:TypeId} {p:String} {af:Array Edge} {gd:Option (Nat×Bool)} {Q:Value->AH->Prop}:Wo P K ⟨dst,.field ty x f,t,p,af,gd⟩ e h Q=onS (aOp P ⟨dst,.field ty x f,t,p,af,gd⟩ e h) Q:=zb0 rfl
theorem zlL {dst:Option Tmp} (ty:TypeId) (x i:Operand) {t:TypeId} {p:String} {af:Array Edge} {gd:Option (Nat×Bool)} {Q:Value->AH->Prop}:Wo P K ⟨dst,.indexAddr ty x i,t,p,af,gd⟩ e h Q=onS (aOp P ⟨dst,.indexAddr ty x i,t,p,af,gd⟩ e h) Q:=zb0 rfl
theorem ztK {dst:Option Tmp} (ty:TypeId) (x i:Operand) {t:TypeId} {p:String} {af:Array Edge} {gd:Option (Nat×Bool)} {Q:Value->AH->Prop}:Wo P K ⟨dst,.index ty x i,t,p,af,gd⟩ e h Q=onS (aOp P ⟨dst,.index ty x i,t,p,af,gd⟩ e h) Q:=zb0 rfl
theorem zqZ {dst:Option Tmp} (ty:TypeId) (x i:Operand) (ok:Bool) {t:TypeId} {p:String} {af:Array Edge} {gd:Option (Nat×Bool)} {Q:Value->AH->Prop}:Wo P K ⟨dst,.lookup ty x i ok,t,p,af,gd⟩ e h Q=onS (aOp P ⟨dst,.lookup ty x i ok,t,p,af,gd⟩ e h) Q:=zb0 rfl
theorem zlM {dst:Option Tmp} (ty:TypeId) (m k v:Operand) {t:TypeId} {p:String} {af:Array Edge} {gd:Option (Nat×Bool)} {Q:Value->AH->Prop}:Wo P K ⟨dst,.mapUpdate ty m k v,t,p,af,gd⟩ e h Q=onS (aOp P ⟨dst,.mapUpdate ty m k v,t,p,af,gd⟩ e h) Q:=zb0 rfl
theorem ztL {dst:Option Tmp} (ty:TypeId) (x:Operand) {t:TypeId} {p:String} {af:Array Edge} {gd:Option (Nat×Bool)} {Q:Value->AH->Prop}:Wo P K ⟨dst,.range ty x,t,p,af,gd⟩ e h Q=onS (aOp P ⟨dst,.range ty x,t,p,af,gd⟩ e h) Q:=zb0 rfl
theorem zvV {dst:Option Tmp} (x:Operand) (s:Bool) {t:TypeId} {p:String} {af:Array Edge} {gd:Option (Nat×Bool)} {Q:Value->AH->Prop}:Wo P K ⟨dst,.next x s,t,p,af,gd⟩ e h Q=onS (aOp P ⟨dst,.next x s,t,p,af,gd⟩ e h) Q:=zb0 rfl
theorem zpG {dst:Option Tmp} (x:Operand) (i:Nat) {t:TypeId} {p:String} {af:Array Edge} {gd:Option (Nat×Bool)} {Q:Value->AH->Prop}:Wo P K ⟨dst,.extract x i,t,p,af,gd⟩ e h Q=onS (aOp P ⟨dst,.extract x i,t,p,af,gd⟩ e h) Q:=zb0 rfl
theorem zpH {dst:Option Tmp} {bi:Builtin} {args:Array Operand} {ats:Array TypeId} {t:TypeId} {p:String} {af:Array Edge} {gd:Option (Nat×Bool)} {Q:Value->AH->Prop}:Wo P K ⟨dst,.call ⟨.builtin bi,args,ats⟩,t,p,af,gd⟩ e h Q=onS (aOp P ⟨dst,.call ⟨.builtin bi,args,ats⟩,t,p,af,gd⟩ e h) Q:=zb0 rfl
attribute [simp ↓] znc zkk Wc_ret znd zkl zkm zqV zvR zqY zvS ztE zxs ztF zko zvT ztG zne ztH zvU zpE znf zpF zlJ ztI zlK ztJ zlL ztK zqZ zlM ztL zvV zpG zpH
attribute [simp] zpC zvP ztC zlH zqT zpD
def onG (g:Option Bool) (A B:Prop):Prop:=match g with | some true=>A | some false=>B | none=>False
def Wl (P:Program) (K:Xs) (ops:Array Oper) (os:List Nat) (e:Env) (h:AH) (Q:List (Env×AH)->Prop):Prop:=∃n l,zcU P K (ex P K n) ops os e h=some l/\Q l
@[simp ↓] theorem zu0 {ops:Array Oper} {Q:List (Env×AH)->Prop}:Wl P K ops [] e h Q=Q [(e,h)]:=
  propext ⟨λ⟨n,l,h1,h2⟩=>by grind[zcU],λhq=>⟨0,_,rfl,hq⟩⟩
def onO (o:Option Oper) (k:Oper->Prop):Prop:=match o with | some o=>k o | none=>False
@[simp ↓] theorem zou {o:Oper} {k:Oper->Prop}:onO (some o) k=k o:=rfl
def kl (P:Program) (K:Xs) (ops:Array Oper) (js:List Nat) (d:Option Tmp) (e:Env) (Q:List (Env×AH)->Prop):Value->AH->Prop:=λv h'=>Wl P K ops js (putO e d v) h' Q
def kp (e:Env) (h:AH) (Q:List (Env×AH)->Prop):List (Env×AH)->Prop:=λl=>Q ((e,h) :: l)
def ko (P:Program) (K:Xs) (ops:Array Oper) (js:List Nat) (e:Env) (h:AH) (Q:List (Env×AH)->Prop):Oper->Prop:=λo=>onG (zaI ops o e) (Wo P K o e h (kl P K ops js o.dst e (kp e h Q))) (Wl P K ops js (putO e o.dst zdq) h (kp e h Q))
@[simp ↓] theorem zvW {ops:Array Oper} {js:List Nat} {Q:List (Env×AH)->Prop} {o:Oper}:ko P K ops js e h Q o=onG (zaI ops o e) (Wo P K o e h (kl P K ops js o.dst e (kp e h Q))) (Wl P K ops js (putO e o.dst zdq) h (kp e h Q)):=rfl
def kd (Q:Env->AH->Prop):List (Env×AH)->Prop:=λl=>∃y,l.getLast?= some y/\Q y.1 y.2
theorem zng {ops:Array Oper} {j:Nat} {js:List Nat} {Q:List (Env×AH)->Prop}:Wl P K ops (j :: js) e h Q =
 onO ops[j]? (ko P K ops js e h Q):=by
 cases ho:ops[j]? with
 | none=>
   refine propext ⟨?_,λhq=>hq.elim⟩
   rintro⟨n,l,h1,h2⟩
   grind[zcU]
 | some o=>
   simp only[onO,zvW]
   cases hw:zaI ops o e with
   | none=>
     refine propext ⟨?_,λhq=>hq.elim⟩
     rintro⟨n,l,h1,h2⟩
     grind[zcU]
   | some b=>
     cases b with
     | true=>
       refine propext ⟨?_,?_⟩
       ·rintro⟨n,l,h1,h2⟩
        simp only[zcU,ho,hw] at h1
        split at h1
        ·rename_i v h3 hr
         split at h1
         ·rename_i l2 hl2
          simp only[Qa] at h1
          subst h1
          exact⟨n,v,h3,hr,n,l2,hl2,h2⟩
         grind
        grind
       ·rintro⟨n,v,h3,h1,m,l,h4,h5⟩
        refine⟨max n m,(e,h) :: l,?_,h5⟩
        simp only[zcU,ho,hw]
        rw[zhk (by grind[zfm]) h1]
        simp only
        rw[zkf (by grind[zfm]) h4]
     | false=>
       refine propext ⟨?_,?_⟩
       ·rintro⟨n,l,h1,h2⟩
        simp only[zcU,ho,hw] at h1
        split at h1
        ·rename_i l2 hl2
         simp only[Qa] at h1
         subst h1
         exact⟨n,l2,hl2,h2⟩
        grind
       ·rintro⟨n,l,h4,h5⟩
        exact⟨n,(e,h) :: l,by grind[zcU],h5⟩
theorem zq0 {ops:Array Oper} {Q:Env->AH->Prop} {ord:List Nat} {ps:List (Nat×Nat)} (hp:zvF P ops=some (ord,ps)):
 Wd P K ops e h Q=Wl P K ops ord e h (λl=>ps.all (λp=>za6 P ops ord l p.1 p.2 && za6 P ops ord l p.1 (p.2+1))=true/\∃y,l.getLast?= some y/\Q y.1 y.2):=by
 refine propext ⟨?_,?_⟩
 ·rintro⟨n,e',h',h1,h2⟩
  unfold zcb at h1
  rw[hp] at h1
  simp only at h1
  split at h1
  ·rename_i l hl
   split at h1
   ·rename_i hall
    exact⟨n,l,hl,hall,(e',h'),h1,h2⟩
   grind
  grind
 ·rintro⟨n,l,hl,hall,y,h1,h2⟩
  refine⟨n,y.1,y.2,?_,h2⟩
  grind[zcb]
attribute [simp ↓] zng
theorem zvX {r:Ex} {ops:Array Oper}:∀{os:List Nat} {e:Env} {h:AH} {l:List (Env×AH)},zcU P K r ops os e h=some l->l≠[]
 | [],e,h,l,hr=>by grind[zcU]
 | j :: js,e,h,l,hr=>by grind[zcU]
attribute [simp] zdH
@[simp] theorem zdT {d:Tmp} {v:Value}:putO e (some d) v=e.set d v:=rfl
attribute [simp] Tr.get_set Tr.get_ofList AH.get_set AH.get_alloc AH.get_del
attribute [simp] zgJ
end
noncomputable section
section
variable {P:Program} {K:Xs} {e:Env} {h:AH}
theorem zkp {α:Type} (l:List α) (i:Nat) (v:α) (hi:i < l.length):l.take i ++ [v] ++ l.drop (i+1)=l.set i v:=by
 rw[List.set_eq_take_append_cons_drop,if_pos hi]
 simp
def zxt:Value->Bool
 | .agg _ | .tuple _=>false
 | _=>true
theorem zpI {v:Value} (hv:zxt v=true):v.cells=#[v]:=by cases v <;> first | rfl | (simp[zxt] at hv)
def zvY (y:Option zca) (off:Nat):Option Value:=match y with | some (.cells cs _ _)=>cs[off]? | _=>none
def zvZ (y:Option zca) (off n:Nat):Option Value:=match y with | some (.cells cs _ _)=>if off+n<=cs.length then some (.agg ((cs.drop off).take n).toArray) else none | _=>none
@[simp] theorem zq1 {t:TypeId} {b off:Nat} (ht:aggT P t=some false):zbL P h t (.pointer (some ⟨b,off,none⟩))=zvY (h.get b) off:=by
  simp only[zbL,zvY]
  cases hb:h.get b with
  | none=>rfl
  | some o=>cases o <;> simp[ht]
@[simp] theorem zq2 {t:TypeId} {b off:Nat} (ht:aggT P t=some true):zbL P h t (.pointer (some ⟨b,off,none⟩))=zvZ (h.get b) off (P.cellsOf t):=by
  simp only[zbL,zvZ]
  cases hb:h.get b with
  | none=>rfl
  | some o=>cases o <;> simp[ht]
def zlN (h:AH) (b off:Nat) (v:Value) (y:Option zca):Option AH:=match y with | some (.cells cs e false)=>if off < cs.length then some (h.set b (.cells (cs.set off v) e false)) else none | _=>none
theorem zpJ {t:TypeId} {b off:Nat} {v:Value} (h1:P.cellsOf t=1) (h2:(P.info? t).isSome=true) (hv:zxt v=true):zbM P h t (.pointer (some ⟨b,off,none⟩)) v=zlN h b off v (h.get b):=by
 have hc:=zpI hv
 have key:zap h b off [v]=zlN h b off v (h.get b):=by
  simp only[zap,zlN]
  cases hb:h.get b with
  | none=>rfl
  | some o=>
    cases o with
    | cells cs e ro=>
      cases ro with
      | true=>rfl
      | false=>
        simp only[List.length_singleton]
        by_cases hl:off < cs.length
        ·rw[if_pos hl,if_pos (by omega),zkp _ _ _ hl]
        ·rw[if_neg hl,if_neg (by omega)]
    | _=>rfl
 unfold zbM
 cases v <;> first | (simp[zxt] at hv; done) | (simp[hc,h1,h2]; exact key)
def zlO (h:AH) (b off:Nat) (vs:List Value) (y:Option zca):Option AH:=match y with | some (.cells cs e false)=>if off+vs.length<=cs.length then some (h.set b (.cells (cs.take off ++ vs ++ cs.drop (off+vs.length)) e false)) else none | _=>none
theorem zjj {b off:Nat} {vs:List Value}:zap h b off vs=zlO h b off vs (h.get b):=by
 simp only[zap,zlO]
 cases hb:h.get b with
 | none=>rfl
 | some o=>cases o <;> first | rfl | (rename_i ro; cases ro <;> rfl)
@[simp] theorem zpK {t:TypeId} {b off:Nat} {vs:Array Value} (h2:(P.info? t).isSome=true):zbM P h t (.pointer (some ⟨b,off,none⟩)) (.agg vs)=if vs.size=P.cellsOf t then zlO h b off vs.toList (h.get b) else none:=by
  simp[zbM,zjj,h2,Value.cells]
@[simp] theorem zaO {st xt:TypeId} {s x:Value} {elem:TypeId} (hx:P.underlying xt=some (.slice elem)):zak P h .append #[st,xt] [s,x]=zaM P h st false s x:=by simp[zak,hx]
theorem zfq {x:Int} (h1:-9223372036854775808<=x) (h2:x<=9223372036854775807):IntKind.i64.wrap x=x:=by
 simp[IntKind.wrap,IntKind.bits,IntKind.signed]
 omega
theorem zkq {x:Int} (h1:0<=x) (h2:x<=18446744073709551615):IntKind.u64.wrap x=x:=by
 simp[IntKind.wrap,IntKind.bits,IntKind.signed]
 omega
end
end
end Go.Am
