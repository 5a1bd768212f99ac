/-
  Texts of this proof, part 11. No condition.
-/
import Derived.Test.YtmnbboleclchcaaGreatFAm3j
set_option linter.unusedVariables false
set_option linter.unusedSimpArgs false
namespace Go.Am
section
variable {P:Program} {K:Xs} {e:Env} {h:AH}
def onS (y:Option (Value×AH)) (Q:Value->AH->Prop):Prop:=match y with | some z=>Q z.1 z.2 | none=>False
def ks (P:Program) (K:Xs) (ops:Array Oper) (os:List Oper) (d:Option Tmp) (e:Env) (Q:Env->AH->Prop):Value->AH->Prop:=λv h'=>Ws P K ops os (putO e d v) h' Q
def kc (P:Program) (K:Xs) (rd:Option Nat) (b:Code) (Q:AX->Env->AH->Prop):Env->AH->Prop:=λe h=>Wc P K rd b e h Q
def kn (Q:AX->Env->AH->Prop):Env->AH->Prop:=λe h=>Q .normal e h
theorem zbX {o:Oper} {Q:Value->AH->Prop} (hc:zfn o.op=false):Wo P K o e h Q=onS (aOp P o e h) Q:=by
 cases ha:aOp P o e h with
 | none=>
   refine propext ⟨?_,λhq=>hq.elim⟩
   rintro⟨n,v1,h1,h2,h3⟩
   grind[zdy]
 | some y=>exact propext (zke hc ha)
theorem zvJ {dst:Option Tmp} (x:Operand) {t:TypeId} {p:String} {af:Array Edge} {gd:Option (Nat×Bool)} {Q:Value->AH->Prop}:Wo P K ⟨dst,.move x,t,p,af,gd⟩ e h Q=onS (aOp P ⟨dst,.move x,t,p,af,gd⟩ e h) Q:=zbX rfl
theorem zqZ {dst:Option Tmp} (x:Operand) {t:TypeId} {p:String} {af:Array Edge} {gd:Option (Nat×Bool)} {Q:Value->AH->Prop}:Wo P K ⟨dst,.assign x,t,p,af,gd⟩ e h Q=onS (aOp P ⟨dst,.assign x,t,p,af,gd⟩ e h) Q:=zbX rfl
theorem zvK {dst:Option Tmp} (c a b:Operand) {t:TypeId} {p:String} {af:Array Edge} {gd:Option (Nat×Bool)} {Q:Value->AH->Prop}:Wo P K ⟨dst,.pick c a b,t,p,af,gd⟩ e h Q=onS (aOp P ⟨dst,.pick c a b,t,p,af,gd⟩ e h) Q:=zbX rfl
theorem ztB {dst:Option Tmp} (ty:TypeId) {t:TypeId} {p:String} {af:Array Edge} {gd:Option (Nat×Bool)} {Q:Value->AH->Prop}:Wo P K ⟨dst,.alloc ty,t,p,af,gd⟩ e h Q=onS (aOp P ⟨dst,.alloc ty,t,p,af,gd⟩ e h) Q:=zbX rfl
theorem zxj {dst:Option Tmp} (ty:TypeId) (x:Operand) {t:TypeId} {p:String} {af:Array Edge} {gd:Option (Nat×Bool)} {Q:Value->AH->Prop}:Wo P K ⟨dst,.box ty x,t,p,af,gd⟩ e h Q=onS (aOp P ⟨dst,.box ty x,t,p,af,gd⟩ e h) Q:=zbX rfl
theorem ztC {dst:Option Tmp} (ty:TypeId) (ps:Array (Nat×Operand)) {t:TypeId} {p:String} {af:Array Edge} {gd:Option (Nat×Bool)} {Q:Value->AH->Prop}:Wo P K ⟨dst,.build ty ps,t,p,af,gd⟩ e h Q=onS (aOp P ⟨dst,.build ty ps,t,p,af,gd⟩ e h) Q:=zbX rfl
theorem zkf {dst:Option Tmp} (ty:TypeId) (n:Nat) (ps:Array (Nat×Operand)) {t:TypeId} {p:String} {af:Array Edge} {gd:Option (Nat×Bool)} {Q:Value->AH->Prop}:Wo P K ⟨dst,.buildSlice ty n ps,t,p,af,gd⟩ e h Q=onS (aOp P ⟨dst,.buildSlice ty n ps,t,p,af,gd⟩ e h) Q:=zbX rfl
theorem zvL {dst:Option Tmp} (ty:TypeId) (x:Operand) {t:TypeId} {p:String} {af:Array Edge} {gd:Option (Nat×Bool)} {Q:Value->AH->Prop}:Wo P K ⟨dst,.load ty x,t,p,af,gd⟩ e h Q=onS (aOp P ⟨dst,.load ty x,t,p,af,gd⟩ e h) Q:=zbX rfl
theorem ztD {dst:Option Tmp} (ty:TypeId) (x y:Operand) {t:TypeId} {p:String} {af:Array Edge} {gd:Option (Nat×Bool)} {Q:Value->AH->Prop}:Wo P K ⟨dst,.store ty x y,t,p,af,gd⟩ e h Q=onS (aOp P ⟨dst,.store ty x y,t,p,af,gd⟩ e h) Q:=zbX rfl
theorem zm9 {dst:Option Tmp} (x:Operand) {t:TypeId} {p:String} {af:Array Edge} {gd:Option (Nat×Bool)} {Q:Value->AH->Prop}:Wo P K ⟨dst,.nilCheck x,t,p,af,gd⟩ e h Q=onS (aOp P ⟨dst,.nilCheck x,t,p,af,gd⟩ e h) Q:=zbX rfl
theorem ztE {dst:Option Tmp} (op:BinOp) (ty:TypeId) (x y:Operand) (yt:TypeId) {t:TypeId} {p:String} {af:Array Edge} {gd:Option (Nat×Bool)} {Q:Value->AH->Prop}:Wo P K ⟨dst,.binOp op ty x y yt,t,p,af,gd⟩ e h Q=onS (aOp P ⟨dst,.binOp op ty x y yt,t,p,af,gd⟩ e h) Q:=zbX rfl
theorem zvM {dst:Option Tmp} (op:UnOp) (ty:TypeId) (x:Operand) {t:TypeId} {p:String} {af:Array Edge} {gd:Option (Nat×Bool)} {Q:Value->AH->Prop}:Wo P K ⟨dst,.unOp op ty x,t,p,af,gd⟩ e h Q=onS (aOp P ⟨dst,.unOp op ty x,t,p,af,gd⟩ e h) Q:=zbX rfl
theorem zpG {dst:Option Tmp} (s d:TypeId) (x:Operand) {t:TypeId} {p:String} {af:Array Edge} {gd:Option (Nat×Bool)} {Q:Value->AH->Prop}:Wo P K ⟨dst,.convert s d x,t,p,af,gd⟩ e h Q=onS (aOp P ⟨dst,.convert s d x,t,p,af,gd⟩ e h) Q:=zbX rfl
theorem zna {dst:Option Tmp} (fn:Fn) (a b:Array Operand) {t:TypeId} {p:String} {af:Array Edge} {gd:Option (Nat×Bool)} {Q:Value->AH->Prop}:Wo P K ⟨dst,.makeFunc fn a b,t,p,af,gd⟩ e h Q=onS (aOp P ⟨dst,.makeFunc fn a b,t,p,af,gd⟩ e h) Q:=zbX rfl
theorem zpH {dst:Option Tmp} (ty:TypeId) (r:Option Operand) {t:TypeId} {p:String} {af:Array Edge} {gd:Option (Nat×Bool)} {Q:Value->AH->Prop}:Wo P K ⟨dst,.makeMap ty r,t,p,af,gd⟩ e h Q=onS (aOp P ⟨dst,.makeMap ty r,t,p,af,gd⟩ e h) Q:=zbX rfl
theorem zlC {dst:Option Tmp} (ty:TypeId) (l c:Operand) {t:TypeId} {p:String} {af:Array Edge} {gd:Option (Nat×Bool)} {Q:Value->AH->Prop}:Wo P K ⟨dst,.makeSlice ty l c,t,p,af,gd⟩ e h Q=onS (aOp P ⟨dst,.makeSlice ty l c,t,p,af,gd⟩ e h) Q:=zbX rfl
theorem ztF {dst:Option Tmp} (ty:TypeId) (x:Operand) (lo hi mx:Option Operand) {t:TypeId} {p:String} {af:Array Edge} {gd:Option (Nat×Bool)} {Q:Value->AH->Prop}:Wo P K ⟨dst,.slice ty x lo hi mx,t,p,af,gd⟩ e h Q=onS (aOp P ⟨dst,.slice ty x lo hi mx,t,p,af,gd⟩ e h) Q:=zbX rfl
theorem zlD {dst:Option Tmp} (ty:TypeId) (x:Operand) (f:Nat) {t:TypeId} {p:String} {af:Array Edge} {gd:Option (Nat×Bool)} {Q:Value->AH->Prop}:Wo P K ⟨dst,.fieldAddr ty x f,t,p,af,gd⟩ e h Q=onS (aOp P ⟨dst,.fieldAddr ty x f,t,p,af,gd⟩ e h) Q:=zbX rfl
theorem ztG {dst:Option Tmp} (ty:TypeId) (x:Operand) (f:Nat) {t:TypeId} {p:String} {af:Array Edge} {gd:Option (Nat×Bool)} {Q:Value->AH->Prop}:Wo P K ⟨dst,.field ty x f,t,p,af,gd⟩ e h Q=onS (aOp P ⟨dst,.field ty x f,t,p,af,gd⟩ e h) Q:=zbX rfl
theorem zlE {dst:Option Tmp} (ty:TypeId) (x i:Operand) {t:TypeId} {p:String} {af:Array Edge} {gd:Option (Nat×Bool)} {Q:Value->AH->Prop}:Wo P K ⟨dst,.indexAddr ty x i,t,p,af,gd⟩ e h Q=onS (aOp P ⟨dst,.indexAddr ty x i,t,p,af,gd⟩ e h) Q:=zbX rfl
theorem ztH {dst:Option Tmp} (ty:TypeId) (x i:Operand) {t:TypeId} {p:String} {af:Array Edge} {gd:Option (Nat×Bool)} {Q:Value->AH->Prop}:Wo P K ⟨dst,.index ty x i,t,p,af,gd⟩ e h Q=onS (aOp P ⟨dst,.index ty x i,t,p,af,gd⟩ e h) Q:=zbX rfl
theorem zq0 {dst:Option Tmp} (ty:TypeId) (x i:Operand) (ok:Bool) {t:TypeId} {p:String} {af:Array Edge} {gd:Option (Nat×Bool)} {Q:Value->AH->Prop}:Wo P K ⟨dst,.lookup ty x i ok,t,p,af,gd⟩ e h Q=onS (aOp P ⟨dst,.lookup ty x i ok,t,p,af,gd⟩ e h) Q:=zbX rfl
theorem zlF {dst:Option Tmp} (ty:TypeId) (m k v:Operand) {t:TypeId} {p:String} {af:Array Edge} {gd:Option (Nat×Bool)} {Q:Value->AH->Prop}:Wo P K ⟨dst,.mapUpdate ty m k v,t,p,af,gd⟩ e h Q=onS (aOp P ⟨dst,.mapUpdate ty m k v,t,p,af,gd⟩ e h) Q:=zbX rfl
theorem ztI {dst:Option Tmp} (ty:TypeId) (x:Operand) {t:TypeId} {p:String} {af:Array Edge} {gd:Option (Nat×Bool)} {Q:Value->AH->Prop}:Wo P K ⟨dst,.range ty x,t,p,af,gd⟩ e h Q=onS (aOp P ⟨dst,.range ty x,t,p,af,gd⟩ e h) Q:=zbX rfl
theorem zvN {dst:Option Tmp} (x:Operand) (s:Bool) {t:TypeId} {p:String} {af:Array Edge} {gd:Option (Nat×Bool)} {Q:Value->AH->Prop}:Wo P K ⟨dst,.next x s,t,p,af,gd⟩ e h Q=onS (aOp P ⟨dst,.next x s,t,p,af,gd⟩ e h) Q:=zbX rfl
theorem zpI {dst:Option Tmp} (x:Operand) (i:Nat) {t:TypeId} {p:String} {af:Array Edge} {gd:Option (Nat×Bool)} {Q:Value->AH->Prop}:Wo P K ⟨dst,.extract x i,t,p,af,gd⟩ e h Q=onS (aOp P ⟨dst,.extract x i,t,p,af,gd⟩ e h) Q:=zbX rfl
theorem zpJ {dst:Option Tmp} {bi:Builtin} {args:Array Operand} {ats:Array TypeId} {t:TypeId} {p:String} {af:Array Edge} {gd:Option (Nat×Bool)} {Q:Value->AH->Prop}:Wo P K ⟨dst,.call ⟨.builtin bi,args,ats⟩,t,p,af,gd⟩ e h Q=onS (aOp P ⟨dst,.call ⟨.builtin bi,args,ats⟩,t,p,af,gd⟩ e h) Q:=zbX rfl
attribute [simp ↓] zm7 zkb Wc_ret zm8 zkc zkd zqW zvJ zqZ zvK ztB zxj ztC zkf zvL ztD zm9 ztE zvM zpG zna zpH zlC ztF zlD ztG zlE ztH zq0 zlF ztI zvN zpI zpJ
attribute [simp] zpE zvH ztA zlA zqU zpF
def onG (g:Option Bool) (A B:Prop):Prop:=match g with | some true=>A | some false=>B | none=>False
def Wl (P:Program) (K:Xs) (ops:Array Oper) (os:List Nat) (e:Env) (h:AH) (Q:List (Env×AH)->Prop):Prop:=∃n l,zcY P K (ex P K n) ops os e h=some l/\Q l
@[simp ↓] theorem zuT {ops:Array Oper} {Q:List (Env×AH)->Prop}:Wl P K ops [] e h Q=Q [(e,h)]:=
  propext ⟨λ⟨n,l,h1,h2⟩=>by grind[zcY],λhq=>⟨0,_,rfl,hq⟩⟩
def onO (o:Option Oper) (k:Oper->Prop):Prop:=match o with | some o=>k o | none=>False
@[simp ↓] theorem zou {o:Oper} {k:Oper->Prop}:onO (some o) k=k o:=rfl
def kl (P:Program) (K:Xs) (ops:Array Oper) (js:List Nat) (d:Option Tmp) (e:Env) (Q:List (Env×AH)->Prop):Value->AH->Prop:=λv h'=>Wl P K ops js (putO e d v) h' Q
def kp (e:Env) (h:AH) (Q:List (Env×AH)->Prop):List (Env×AH)->Prop:=λl=>Q ((e,h) :: l)
def ko (P:Program) (K:Xs) (ops:Array Oper) (js:List Nat) (e:Env) (h:AH) (Q:List (Env×AH)->Prop):Oper->Prop:=λo=>onG (zaI ops o e) (Wo P K o e h (kl P K ops js o.dst e (kp e h Q))) (Wl P K ops js (putO e o.dst zdt) h (kp e h Q))
@[simp ↓] theorem zvO {ops:Array Oper} {js:List Nat} {Q:List (Env×AH)->Prop} {o:Oper}:ko P K ops js e h Q o=onG (zaI ops o e) (Wo P K o e h (kl P K ops js o.dst e (kp e h Q))) (Wl P K ops js (putO e o.dst zdt) h (kp e h Q)):=rfl
def kd (Q:Env->AH->Prop):List (Env×AH)->Prop:=λl=>∃y,l.getLast?= some y/\Q y.1 y.2
theorem znb {ops:Array Oper} {j:Nat} {js:List Nat} {Q:List (Env×AH)->Prop}:Wl P K ops (j :: js) e h Q =
 onO ops[j]? (ko P K ops js e h Q):=by
 cases ho:ops[j]? with
 | none=>
   refine propext ⟨?_,λhq=>hq.elim⟩
   rintro⟨n,l,h1,h2⟩
   grind[zcY]
 | some o=>
   simp only[onO,zvO]
   cases hw:zaI ops o e with
   | none=>
     refine propext ⟨?_,λhq=>hq.elim⟩
     rintro⟨n,l,h1,h2⟩
     grind[zcY]
   | some b=>
     cases b with
     | true=>
       refine propext ⟨?_,?_⟩
       ·rintro⟨n,l,h1,h2⟩
        simp only[zcY,ho,hw] at h1
        split at h1
        ·rename_i v h3 hr
         split at h1
         ·rename_i l2 hl2
          simp only[Qa] at h1
          subst h1
          exact⟨n,v,h3,hr,n,l2,hl2,h2⟩
         grind
        grind
       ·rintro⟨n,v,h3,h1,m,l,h4,h5⟩
        refine⟨max n m,(e,h) :: l,?_,h5⟩
        simp only[zcY,ho,hw]
        rw[zhk (by grind[zg5]) h1]
        simp only
        rw[zj5 (by grind[zg5]) h4]
     | false=>
       refine propext ⟨?_,?_⟩
       ·rintro⟨n,l,h1,h2⟩
        simp only[zcY,ho,hw] at h1
        split at h1
        ·rename_i l2 hl2
         simp only[Qa] at h1
         subst h1
         exact⟨n,l2,hl2,h2⟩
        grind
       ·rintro⟨n,l,h4,h5⟩
        exact⟨n,(e,h) :: l,by grind[zcY],h5⟩
theorem zq1 {ops:Array Oper} {Q:Env->AH->Prop} {ord:List Nat} {ps:List (Nat×Nat)} (hp:zvx P ops=some (ord,ps)):
 Wd P K ops e h Q=Wl P K ops ord e h (λl=>ps.all (λp=>za4 P ops ord l p.1 p.2 && za4 P ops ord l p.1 (p.2+1))=true/\∃y,l.getLast?= some y/\Q y.1 y.2):=by
 refine propext ⟨?_,?_⟩
 ·rintro⟨n,e',h',h1,h2⟩
  unfold zb8 at h1
  rw[hp] at h1
  simp only at h1
  split at h1
  ·rename_i l hl
   split at h1
   ·rename_i hall
    exact⟨n,l,hl,hall,(e',h'),h1,h2⟩
   grind
  grind
 ·rintro⟨n,l,hl,hall,y,h1,h2⟩
  refine⟨n,y.1,y.2,?_,h2⟩
  grind[zb8]
attribute [simp ↓] znb
theorem zvP {r:Ex} {ops:Array Oper}:∀{os:List Nat} {e:Env} {h:AH} {l:List (Env×AH)},zcY P K r ops os e h=some l->l≠[]
 | [],e,h,l,hr=>by grind[zcY]
 | j :: js,e,h,l,hr=>by grind[zcY]
attribute [simp] zdH
@[simp] theorem zdO {d:Tmp} {v:Value}:putO e (some d) v=e.set d v:=rfl
attribute [simp] Tr.get_set Tr.get_ofList AH.get_set AH.get_alloc AH.get_del
attribute [simp] zgH
end
noncomputable section
section
variable {P:Program} {K:Xs} {e:Env} {h:AH}
theorem zkg {α:Type} (l:List α) (i:Nat) (v:α) (hi:i < l.length):l.take i ++ [v] ++ l.drop (i+1)=l.set i v:=by
 rw[List.set_eq_take_append_cons_drop,if_pos hi]
 simp
def zxk:Value->Bool
 | .agg _ | .tuple _=>false
 | _=>true
theorem zpK {v:Value} (hv:zxk v=true):v.cells=#[v]:=by cases v <;> first | rfl | (simp[zxk] at hv)
def zvQ (y:Option zb3) (off:Nat):Option Value:=match y with | some (.cells cs _ _)=>cs[off]? | _=>none
def zvR (y:Option zb3) (off n:Nat):Option Value:=match y with | some (.cells cs _ _)=>if off+n<=cs.length then some (.agg ((cs.drop off).take n).toArray) else none | _=>none
@[simp] theorem zq2 {t:TypeId} {b off:Nat} (ht:aggT P t=some false):zbJ P h t (.pointer (some ⟨b,off,none⟩))=zvQ (h.get b) off:=by
  simp only[zbJ,zvQ]
  cases hb:h.get b with
  | none=>rfl
  | some o=>cases o <;> simp[ht]
@[simp] theorem zq3 {t:TypeId} {b off:Nat} (ht:aggT P t=some true):zbJ P h t (.pointer (some ⟨b,off,none⟩))=zvR (h.get b) off (P.cellsOf t):=by
  simp only[zbJ,zvR]
  cases hb:h.get b with
  | none=>rfl
  | some o=>cases o <;> simp[ht]
def zlG (h:AH) (b off:Nat) (v:Value) (y:Option zb3):Option AH:=match y with | some (.cells cs e false)=>if off < cs.length then some (h.set b (.cells (cs.set off v) e false)) else none | _=>none
theorem zpL {t:TypeId} {b off:Nat} {v:Value} (h1:P.cellsOf t=1) (h2:(P.info? t).isSome=true) (hv:zxk v=true):zbK P h t (.pointer (some ⟨b,off,none⟩)) v=zlG h b off v (h.get b):=by
 have hc:=zpK hv
 have key:zap h b off [v]=zlG h b off v (h.get b):=by
  simp only[zap,zlG]
  cases hb:h.get b with
  | none=>rfl
  | some o=>
    cases o with
    | cells cs e ro=>
      cases ro with
      | true=>rfl
      | false=>
        simp only[List.length_singleton]
        by_cases hl:off < cs.length
        ·rw[if_pos hl,if_pos (by omega),zkg _ _ _ hl]
        ·rw[if_neg hl,if_neg (by omega)]
    | _=>rfl
 unfold zbK
 cases v <;> first | (simp[zxk] at hv; done) | (simp[hc,h1,h2]; exact key)
def zlH (h:AH) (b off:Nat) (vs:List Value) (y:Option zb3):Option AH:=match y with | some (.cells cs e false)=>if off+vs.length<=cs.length then some (h.set b (.cells (cs.take off ++ vs ++ cs.drop (off+vs.length)) e false)) else none | _=>none
theorem zja {b off:Nat} {vs:List Value}:zap h b off vs=zlH h b off vs (h.get b):=by
 simp only[zap,zlH]
 cases hb:h.get b with
 | none=>rfl
 | some o=>cases o <;> first | rfl | (rename_i ro; cases ro <;> rfl)
@[simp] theorem zpM {t:TypeId} {b off:Nat} {vs:Array Value} (h2:(P.info? t).isSome=true):zbK P h t (.pointer (some ⟨b,off,none⟩)) (.agg vs)=if vs.size=P.cellsOf t then zlH h b off vs.toList (h.get b) else none:=by
  simp[zbK,zja,h2,Value.cells]
@[simp] theorem zaO {st xt:TypeId} {s x:Value} {elem:TypeId} (hx:P.underlying xt=some (.slice elem)):zak P h .append #[st,xt] [s,x]=zaN P h st false s x:=by simp[zak,hx]
theorem zfo {x:Int} (h1:-9223372036854775808<=x) (h2:x<=9223372036854775807):IntKind.i64.wrap x=x:=by
 simp[IntKind.wrap,IntKind.bits,IntKind.signed]
 omega
theorem zkh {x:Int} (h1:0<=x) (h2:x<=18446744073709551615):IntKind.u64.wrap x=x:=by
 simp[IntKind.wrap,IntKind.bits,IntKind.signed]
 omega
end
end
end Go.Am
