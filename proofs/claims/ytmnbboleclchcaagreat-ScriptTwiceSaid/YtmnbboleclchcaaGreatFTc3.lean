/-
  Texts of this proof, part 20. No condition.
-/
import Derived.Test.YtmnbboleclchcaaGreatFTc2
set_option linter.unusedSimpArgs false
set_option linter.unusedVariables false
namespace Go.Am
noncomputable section
section
variable (X:Cx) (pu:Bool)
def tG (ops:Array Oper) (o:Oper) (σ:Sx) (A B:Prop):Prop:=
 match o.guard with
 | none=>A
 | some (j,w)=>match (ops[j]?).bind (·.dst) with | some d=>(match σ.a.get d with | some (.bool b)=>cond (b == w) A B | some .skip=>B | _=>False) | none=>False
def zze (ops:Array Oper):List Oper->Sx->(Sx->Prop)->Prop
 | [],σ,k=>k σ
 | o :: os,σ,k=>tG ops o σ (tOp X pu o σ λv σ'=>zze ops os (zu8 σ' o.dst v) k) (zze ops os (zu8 σ o.dst .skip) k)
inductive Reg where
 | prv (tag:Nat) | pub
inductive OpC where
 | still | quiet | wild
 | wr (r:Reg)
 | mk (d:Nat)
def zgg (v:Option TV):Option Reg:=
 match v with
 | some (.loc tag _ _)=>some (.prv tag)
 | some (.pp tag _)=>some (.prv tag)
 | some (.ap tag _ _ _)=>some (.prv tag)
 | some (.sp tag _ _)=>some (.prv tag)
 | some (.cp _ _ _)=>some .pub
 | some (.xp _)=>some .pub
 | some (.hp _)=>some .pub
 | some (.sl _ _ _ _ _)=>some .pub
 | _=>none
def zjP (f:Operand):Bool:=match f with | .func g=>(match X.sp g with | some s=>s.pu | none=>false) | _=>false
def zzN (d:Option Tmp):OpC:=match d with | some d=>.mk d | none=>.quiet
def opC (o:Oper) (σ:Sx):OpC:=
 match o.op with
 | .store _ x y=>match evT σ.a y with | some v=>(match tagsOf v with | []=>(match zgg (evT σ.a x) with | some r=>.wr r | none=>.wild) | _=>.wild) | none=>.wild
 | .call c=>
   match c.callee with
   | .value f=>match zjP X f with | true=>.quiet | false=>.wild
   | .builtin .append=>match c.args.toList with | s :: _=>(match evT σ.a s with | some .nils=>.quiet | v=>(match zgg v with | some r=>.wr r | none=>.wild)) | _=>.wild
   | .builtin .len=>.still
   | .builtin .min=>.still
   | .builtin .max=>.still
   | _=>.wild
 | .alloc _=>zzN o.dst
 | .box _ _=>.quiet
 | .buildSlice t _ ps=>match o.dst,evs σ.a (ps.toList.map (·.2)),und X t with | some d,some vs,some (.slice elem)=>(match tagsOfL vs,ck X elem with | [],.int _ _ _=>.quiet | [],_=>.mk d | _,_=>.quiet) | _,_,_=>.quiet
 | .makeSlice _ _ _=>.quiet
 | .convert s d _=>match X.P.underlying s,X.P.underlying d with | _,some (.slice _)=>.quiet | _,_=>.still
 | .build _ _=>.quiet
 | .slice _ x _ _ _=>match evT σ.a x with | some (.ap _ _ _ _)=>.quiet | some (.sp _ _ _)=>.quiet | some (.loc _ _ _)=>.quiet | some (.pp _ _)=>.quiet | some (.agg _)=>.quiet | some (.tup _)=>.quiet | some (.fn _ _ _)=>.quiet | _=>.still
 | .move _ | .assign _ | .pick _ _ _ | .load _ _ | .nilCheck _ | .binOp _ _ _ _ _ | .unOp _ _ _ | .makeFunc _ _ _ | .fieldAddr _ _ _ | .field _ _ _ | .indexAddr _ _ _ | .index _ _ _ | .extract _ _=>.still
 | _=>.wild
def rdR (o:Oper) (σ:Sx):Option (Option Reg):=
 match o.dst with
 | none=>none
 | some _=>
   match o.op with
   | .load _ x=>(zgg (evT σ.a x)).map some
   | .slice _ x _ _ _=>match evT σ.a x with | some (.str _)=>some none | some (.sl _ _ _ _ _)=>some (some .pub) | some .nils=>some none | _=>none
   | .convert _ d x=>
     match X.P.underlying d with
     | some (.int _)=>some none
     | some .string=>match evT σ.a x with | some (.sl _ _ _ _ _)=>some (some .pub) | some (.ap tag _ _ _)=>some (some (.prv tag)) | some (.str _)=>some none | _=>none
     | _=>none
   | .call c=>match c.callee with | .builtin .len=>some none | _=>none
   | _=>none
def zoN:Reg->Reg->Bool
 | .prv a,.prv b=>!Nat.beq a b
 | .prv _,.pub=>true
 | .pub,.prv _=>true
 | .pub,.pub=>false
def zwv:OpC->Bool
 | .still=>true
 | .quiet=>true
 | .mk _=>true
 | _=>false
def zrW (r:Reg):OpC->Bool
 | .still=>true
 | .mk d=>match r with | .prv t=>!Nat.beq t d | .pub=>true
 | _=>false
def zww (l:List (OpC×Option (Option Reg))) (p q:Nat):Bool:=
 match Nat.blt p q && Nat.blt q l.length,(l[p]?).map (·.2) with
 | true,some (some none)=>true
 | true,some (some (some r))=>
   ((l.drop p).take (q - p+1)).all (λc=>zwv c.1) ||
   (((l.drop p).take (q - p)).all (λc=>zrW r c.1) && (match l[q]? with | some (.wr r',_)=>zoN r r' | _=>false))
 | _,_=>false
def tL (ops:Array Oper):List Nat->Sx->(List (OpC×Option (Option Reg))->Sx->Prop)->Prop
 | [],σ,k=>k [] σ
 | j :: js,σ,k=>
   match ops[j]? with
   | some o=>tG ops o σ (tOp X pu o σ λv σ'=>tL ops js (zu8 σ' o.dst v) λl=>k ((opC X o σ,rdR X o σ) :: l)) (tL ops js (zu8 σ o.dst .skip) λl=>k ((.still,some none) :: l))
   | none=>False
def zwx (ops:Array Oper) (σ:Sx) (k:Sx->Prop):Prop:=
 match zvF X.P ops with
 | some (ord,ps)=>tL X pu ops ord σ λl σ'=>match ps.all (λp=>zww l p.1 p.2) with | true=>k σ' | false=>False
 | none=>False
inductive TP where
 | int (k:IntKind) | bool | str | same | see
 | sl (w fr kc:Bool) (T:Nat)
 | ap (tag T e:Nat) (kc:Bool)
 | st (v:TV)
structure LH where
 key:Nat
 sl:List (Tmp×TP)
 pv:List (Nat×Option (List TP))
 fg:Bool
 pb:List Nat
 inv:List Int->Prop
 me:List Int->Int
def zwy:TV->List Int
 | .int _ x=>[x]
 | .sl _ _ _ _ n=>[(n:Int)]
 | .ap _ _ n _=>[(n:Int)]
 | .sp _ _ n=>[(n:Int)]
 | _=>[]
def zzO (p:TP) (v0:TV) (k:TV->List Int->Prop):Prop:=
 match p with
 | .int kd=>AN kd λx=>k (.int kd x) [x]
 | .bool=>zoL λv=>k v []
 | .str=>∀s:ByteArray,s.size<=za8->k (.str s) []
 | .same=>k v0 []
 | .see=>k v0 (zwy v0)
 | .sl w fr kc T=>∀n:Nat,k (.sl w fr kc T n) [(n:Int)]
 | .ap tag T _ kc=>∀n:Nat,k (.ap tag T n kc) [(n:Int)]
 | .st v=>k v []
def zuh:List TP->List TV->(List TV->List Int->Prop)->Prop
 | [],_,k=>k [] []
 | p :: ps,v0,k=>zzO p (v0.headD .any) λv l=>zuh ps v0.tail λvs m=>k (v :: vs) (l ++ m)
def znB (a b:Bool):Bool:=!a || b
mutual
def zgX (v w:TV) (q:Prop):Prop:=
 match v,w with
 | .int k x,.int k' y=>match decide (k=k') with | true=>EI y x q | false=>False
 | .bool a,.bool b=>b=a/\q
 | .str a,.str b=>b=a/\q
 | .nilp,.nilp=>q
 | .nils,.nils=>q
 | .loc a b c,.loc a' b' c'=>match Nat.beq a a' && Nat.beq b b' && Nat.beq c c' with | true=>q | false=>False
 | .pp a b,.pp a' b'=>match Nat.beq a a' && Nat.beq b b' with | true=>q | false=>False
 | .cp a b c,.cp a' b' c'=>match znB a a' && znB b b' && Nat.beq c c' with | true=>q | false=>False
 | .hp a,.hp a'=>match Nat.beq a a' with | true=>q | false=>False
 | .np a z,.np a' z'=>match Nat.beq a a' with | true=>z'= z/\q | false=>False
 | .sl a b c T n,.sl a' b' c' T' n'=>match znB a a' && znB b b' && znB c c' && Nat.beq T T' with | true=>EN n' n q | false=>False
 | .ap a T n z,.ap a' T' n' z'=>match Nat.beq a a' && znB z z' && Nat.beq T T' with | true=>EN n' n q | false=>False
 | .sp a T n,.sp a' T' n'=>match Nat.beq a a' && Nat.beq T T' with | true=>EN n' n q | false=>False
 | .aggT T,.aggT T'=>match Nat.beq T T' with | true=>q | false=>False
 | .agg l,.agg l'=>eqTVs l l' q
 | .tup l,.tup l'=>eqTVs l l' q
 | .fn f a c,.fn f' a' c'=>match Nat.beq f f' with | true=>eqTVs a a' (eqTVs c c' q) | false=>False
 | .skip,.skip=>q
 | .any,_=>q
 | .xs l,.xs l'=>l'= l/\q
 | _,_=>False
def eqTVs (l l' : List TV) (q:Prop):Prop:=
 match l,l' with
 | [],[]=>q
 | v :: vs,w :: ws=>zgX v w (eqTVs vs ws q)
 | _,_=>False
end
def zzP (pv:List (Nat×PC)) (p:TP) (v0 v:TV) (k:List Int->List (Nat×Option Nat)->Prop):Prop:=
 match p with
 | .int kd=>match v with | .int kd' x=>(match decide (kd=kd') with | true=>k [x] [] | false=>False) | _=>False
 | .bool=>match v with | .bool _=>k [] [] | _=>False
 | .str=>match v with | .str _=>k [] [] | _=>False
 | .same=>zgX v0 v (k [] [])
 | .see=>zgX v0 v (k (zwy v0) [])
 | .sl w fr kc T=>match v with | .sl w' fr' kc' T' n=>(match znB w w' && znB fr fr' && znB kc kc' && Nat.beq T T' with | true=>k [(n:Int)] [] | false=>False) | .nils=>k [0] [] | _=>False
 | .ap tag T e kc=>match v with | .ap tag' T' n kc'=>(match znB kc kc' && Nat.beq T T' && (match zaD pv tag' with | some (.rows _ e')=>Nat.beq e e' | _=>false) with | true=>k [(n:Int)] [(tag,some tag')] | false=>False) | .nils=>(match kc with | true=>False | false=>k [0] [(tag,none)]) | _=>False
 | .st v1=>zgX v1 v (k [] [])
def zui (pv:List (Nat×PC)):List TP->List TV->List TV->(List Int->List (Nat×Option Nat)->Prop)->Prop
 | [],_,_,k=>k [] []
 | p :: ps,v0,v :: vs,k=>zzP pv p (v0.headD .any) v λl r=>zui pv ps v0.tail vs λm s=>k (l ++ m) (r ++ s)
 | _,_,_,_=>False
def znC:List (Nat×Option Nat)->Bool
 | []=>true
 | (p,a) :: r=>r.all (λx=>match Nat.beq p x.1,(match a,x.2 with | some a,some b=>Nat.beq a b | _,_=>false) with | true,t=>(match a,x.2 with | none,none=>true | _,_=>t) | false,t=>!t) && znC r
def zgY (a:Tr TV):List Tmp->Option (List TV)
 | []=>some []
 | t :: ts=>match a.get t with | some v=>(match zgY a ts with | some l=>some (v :: l) | none=>none) | none=>none
def zdz:List Tmp->List TV->Tr TV
 | t :: ts,v :: vs=>(zdz ts vs).set t v
 | _,_=>.nil
def zcQ:List (Tmp×TP)->List (Nat×PC)
 | []=>[]
 | (_,.ap tag T e _) :: r=>(tag,.rows T e) :: zcQ r
 | _ :: r=>zcQ r
def zp0 (pv0:List (Nat×PC)):List (Nat×Option (List TP))->(List (Nat×PC)->List Int->Prop)->Prop
 | [],k=>k [] []
 | (tag,none) :: r,k=>match zaD pv0 tag with | some c=>zp0 pv0 r λl m=>k ((tag,c) :: l) m | none=>False
 | (tag,some ps) :: r,k=>match zaD pv0 tag with | some (.tv t l0)=>(match Nat.beq ps.length l0.length with | true=>zuh ps l0 λvs m1=>zp0 pv0 r λl m=>k ((tag,.tv t vs) :: l) (m1 ++ m) | false=>False) | _=>False
def zzQ (c d:PC) (q:Prop):Prop:=
 match c,d with
 | .tv t l,.tv t' l'=>match Nat.beq t t' with | true=>eqTVs l l' q | false=>False
 | .ty t,.ty t'=>match Nat.beq t t' with | true=>q | false=>False
 | .rows t u,.rows t' u'=>match Nat.beq t t' && Nat.beq u u' with | true=>q | false=>False
 | _,_=>False
def zva (t:Nat):List Nat->Bool
 | []=>false
 | u :: r=>Nat.beq t u || zva t r
def zcz (ts:List Nat):List TP->List TV->Bool
 | [],_=>true
 | .same :: ps,v0=>(tagsOf (v0.headD .any)).all (λt=>zva t ts) && zcz ts ps v0.tail
 | .see :: ps,v0=>(tagsOf (v0.headD .any)).all (λt=>zva t ts) && zcz ts ps v0.tail
 | .st v :: ps,v0=>(tagsOf v).all (λt=>zva t ts) && zcz ts ps v0.tail
 | _ :: ps,v0=>zcz ts ps v0.tail
def znD (pv0 pv:List (Nat×PC)):List (Nat×Option (List TP))->(List Int->List (Nat×Option Nat)->Prop)->Prop
 | [],k=>k [] []
 | (tag,none) :: r,k=>match zaD pv0 tag,zaD pv tag with | some c,some d=>zzQ c d (znD pv0 pv r λm s=>k m ((tag,some tag) :: s)) | _,_=>False
 | (tag,some ps) :: r,k=>match zaD pv0 tag,zaD pv tag with | some (.tv t l0),some (.tv t' l)=>(match Nat.beq t t' && Nat.beq ps.length l0.length && Nat.beq l.length ps.length && zcz [] ps l0 with | true=>(zui pv ps l0 l λm1 s1=>match s1 with | []=>znD pv0 pv r λm s=>k (m1 ++ m) ((tag,some tag) :: s) | _=>False) | false=>False) | _,_=>False
def zzf (H:LH) (σ0 σ:Sx) (k:List Int->Prop):Prop:=
 match zgY σ0.a (H.sl.map (·.1)),zgY σ.a (H.sl.map (·.1)) with
 | some v0,some v=>
   match zcz (H.pv.map (·.1)) (H.sl.map (·.2)) v0 with
   | false=>False
   | true=>
   zui σ.pv (H.sl.map (·.2)) v0 v λm s=>znD σ0.pv σ.pv H.pv λm' s'=>
   match znC (s ++ s') with
   | true=>(match H.fg with | true=>k (σ.g :: (m ++ m')) | false=>EI σ.g σ0.g<|k (m ++ m'))
   | false=>False
 | _,_=>False
def zzR (H:LH) (σ0:Sx) (k:Sx->List Int->Prop):Prop:=
 match zgY σ0.a (H.sl.map (·.1)) with
 | some v0=>
   zuh (H.sl.map (·.2)) v0 λvs m=>zp0 σ0.pv H.pv λpv m'=>
   (match H.fg with
   | true=>∀g:Int,k { a:=zdz (H.sl.map (·.1)) vs,pv:=zcQ H.sl ++ pv,g:=g } (g :: (m ++ m'))
   | false=>k { a:=zdz (H.sl.map (·.1)) vs,pv:=zcQ H.sl ++ pv,g:=σ0.g } (m ++ m'))
 | none=>False
def zxK:List LH->Option Nat->Option LH
 | H :: r,some k=>match Nat.beq H.key k with | true=>some H | false=>zxK r (some k)
 | _,_=>none
def zAJ (k:Sx->Prop) (Q:AX->Sx->Prop):AX->Sx->Prop
 | .normal,σ=>k σ
 | x,σ=>Q x σ
def zAK (id:Nat) (Q:AX->Sx->Prop):AX->Sx->Prop
 | .exit i,σ=>cond (Nat.beq i id) (Q .normal σ) (Q (.exit i) σ)
 | x,σ=>Q x σ
def tc (hs:List LH):Code->Sx->(AX->Sx->Prop)->Prop
 | .skip,σ,Q=>Q .normal σ
 | .label _,σ,Q=>Q .normal σ
 | .region _ ops draw,σ,Q=>match draw with | false=>zze X pu ops ops.toList σ λσ'=>Q .normal σ' | true=>zwx X pu ops σ λσ'=>Q .normal σ'
 | .seq c d,σ,Q=>tc hs c σ (zAJ (λσ'=>tc hs d σ' Q) Q)
 | .cond c x y,σ,Q=>onV (evT σ.a c) λv=>match v with | .bool b=>cond b (tc hs x σ Q) (tc hs y σ Q) | _=>False
 | .block id c,σ,Q=>tc hs c σ (zAK id Q)
 | .loop c,σ,Q=>
   match zxK hs (zf1 c) with
   | some H=>pubs X H.pb σ λσ=>zzf H σ σ (λm=>H.inv m)/\zzR H σ λσ1 m=>H.inv m->tc hs c σ1 (zAJ (λσ2=>zzf H σ σ2 λm2=>H.inv m2/\0<=H.me m2/\H.me m2 < H.me m) Q)
   | none=>False
 | .scope c,σ,Q=>tc hs c σ Q
 | .exit id,σ,Q=>Q (.exit id) σ
 | .ret,σ,Q=>Q .ret σ
 | _,_,_=>False
mutual
def znE (t:TypeId) (s:RS) (v:TV) (k:TV->Prop):Prop:=
 match s,v with
 | .keep,.nils=>match und X t with | some (.slice e)=>k (.sl true true true e 0) | _=>False
 | .keep,.nilp=>match und X t with | some (.pointer e)=>k (.np e true) | _=>False
 | .keep,v=>k v
 | .np,.nilp=>match und X t with | some (.pointer e)=>k (.np e true) | _=>False
 | .np,.hp T=>k (.np T false)
 | .np,.np T z=>k (.np T z)
 | .np,_=>False
 | .sl w fr kc,.nils=>match und X t with | some (.slice e)=>k (.sl w fr kc e 0) | _=>False
 | .sl w fr kc,.sl w' fr' kc' T n=>match znB w w' && znB fr fr' && znB kc kc' with | true=>k (.sl w fr kc T n) | false=>False
 | .sl _ _ _,_=>False
 | .ty T,.aggT T'=>match Nat.beq T T' with | true=>k (.aggT T) | false=>False
 | .ty T,.agg l=>match isAgg X T with | some true=>zxe X (X.fl T) l (k (.aggT T)) | _=>False
 | .ty _,_=>False
 | .agg ss,.agg l=>match und X t with | some (.struct fs)=>asRess (fs.toList.map (·.type)) ss l λl=>k (.agg l) | _=>False
 | .agg _,v=>False
def asRess (ts:List TypeId) (ss:List RS) (l:List TV) (k:List TV->Prop):Prop:=
 match ts,ss,l with
 | _,[],l=>k l
 | t :: ts,s :: ss,v :: l=>znE t s v λv=>asRess ts ss l λl=>k (v :: l)
 | _,_,_=>False
end
def zmf (σ:Sx):List ResultVar->(List TV->Prop)->Prop
 | [],k=>k []
 | .tmp t :: r,k=>onV (σ.a.get t) λv=>zmf σ r λl=>k (v :: l)
 | .cell a t :: r,k=>zwp X t (.tmp a) σ λv _=>zmf σ r λl=>k (v :: l)
def zqs (l:List TV):TV:=match l with | [v]=>v | l=>.tup l
def zzS (σ:Sx) (rs:List ResultVar) (ts:List TypeId) (ss:List RS) (k:TV->Sx->Prop):Prop:=
 zmf X σ rs λl0=>pubs X (tagsOfL l0) σ λσ=>zmf X σ rs λl=>match tagsOfL l with | []=>asRess X ts (match ss with | []=>List.replicate l.length .keep | ss=>ss) l λl=>k (zqs l) σ | _=>False
def tcF (hs:List LH) (f:FuncId) (ss:List RS) (args:List TV) (g:Int) (Q:TV->Int->Prop):Prop:=
 match X.P.funcs[f]? with
 | some fn=>
   match fn.body with
   | some c=>match tagsOfL args with | _ :: _=>False | []=>tc X pu hs c { a:=(Tr.ofList args),pv:=[],g:=g } λx σ=>match x with | .exit _=>False | _=>zzS X σ fn.results.toList fn.resultTypes.toList ss λr σ=>Q r σ.g
   | none=>False
 | none=>False
def Tf (f:FuncId) (args:List TV) (g:Int) (Q:TV->Int->Prop):Prop:=
 ∀(S:TY) (h:AH) (vs:List Value),WT X S g h->gams X S h (λ_=>none) h.next args vs->
  Wf X.P X.K f vs h λv h'=>∃S' r g',Xt h.next S S'/\WT X S' g' h'/\h.next<=h'.next/\(∀b,b < h.next->(pu=true\/(S.ty b=none/\¬S.dv b))->h'.get b=h.get b)/\gam X S' h' (λ_=>none) h.next r v/\tagsOf r=[]/\Q r g'
def Val (f:FuncId) (s:FS):Prop:=∀ρ g Q,s.s ρ g Q->Tf X s.pu f (instAs s.ps ρ) g Q
end
end
section
variable {X:Cx}
theorem zd3 (f:TV->Option TV):∀(t:Tr TV) (n:Nat),(zjq f t).get n=match t.get n with | some v=>f v | none=>none
 | .nil,n=>rfl
 | .node v l r,n=>by
   simp only[zjq,Tr.get_node]
   cases Nat.beq n 0
   ·cases Nat.beq (n % 2) 1
    ·exact zd3 f r _
    ·exact zd3 f l _
   rfl
theorem zbq {tag:Nat}:∀{l:List (Nat×PC)} {t:Nat},zaD (zd0 tag l) t=if t=tag then none else zaD l t
 | [],t=>by grind[zd0,zaD]
 | (u,c) :: l,t=>by
   unfold zd0
   cases hb:Nat.beq u tag with
   | true=>
     have:=Qb hb
     rw[zbq]
     grind[zjf,zaD]
   | false=>
     simp only[zaD]
     cases hc:Nat.beq u t with
     | true=>grind
     | false=>exact zbq
theorem zio {tag:Nat} {d:PC}:∀{l:List (Nat×PC)} {t:Nat},zaD (zpX l tag d) t=if t=tag then (match zaD l tag with | some _=>some d | none=>none) else zaD l t
 | [],t=>by grind[zpX,zaD]
 | (u,c) :: l,t=>by
   unfold zpX
   cases hb:Nat.beq u tag with
   | true=>grind[zaD,zjf]
   | false=>
     simp only[zaD,hb]
     cases hc:Nat.beq u t with
     | true=>grind
     | false=>exact zio
theorem zdA {a b:Nat}:Nat.beq a b=true↔a=b:=by simp
structure Le2 (S S' : TY):Prop where
 ty:∀b q,S.ty b=some q->S'.ty b=some q
 dev:S'.dev=S.dev
theorem Le2.refl (S:TY):Le2 S S:=⟨λ_ _ h=>h,rfl⟩
theorem Le2.trans {S S' S2:TY} (a:Le2 S S') (b:Le2 S' S2):Le2 S S2:=⟨by grind[ty],b.dev.trans a.dev⟩
theorem Xt.le {base:Nat} {S S' : TY} (e:Xt base S S'):Le2 S S':=⟨e.ty,e.dev⟩
theorem zbr.mono {S S' : TY} (l:Le2 S S') {T:Nat} {v:Value} (p:zbr X S T v):zbr X S' T v:=by grind[zbr,Le2.dev,Le2.ty]
theorem SlV.mono {S S' : TY} (l:Le2 S S') {base:Nat} {w fr kc:Bool} {T n:Nat} {v:Value} (p:SlV X S base w fr kc T n v):SlV X S' base w fr kc T n v:=by
 obtain⟨hn,p,c,h1,h2⟩:=p
 refine⟨hn,p,c,h1,?_⟩
 grind[Le2.ty]
theorem SlV.weak {S:TY} {base base' : Nat} {w fr kc w' fr' kc' : Bool} {T n:Nat} {v:Value} (p:SlV X S base w fr kc T n v) (h1:w'= true->w=true) (h2:fr'= true->fr=true/\base'<=base) (h3:kc'= true->kc=true):SlV X S base' w' fr' kc' T n v:=by
 obtain⟨hn,p,c,e,h⟩:=p
 refine⟨hn,p,c,e,?_⟩
 grind
theorem okC.mono {S S' : TY} (l:Le2 S S') {T:Nat} {v:Value} (p:okC X S T v):okC X S' T v:=by
 unfold okC at p ⊢
 split at p
 ·omega
 ·omega
 ·omega
 ·exact p.mono l
 ·obtain⟨n,h1,h2⟩:=p
  exact⟨n,h1,h2.mono l⟩
 ·obtain⟨n,h1,h2⟩:=p
  exact⟨n,h1,h2.mono l⟩
 omega
theorem zau.mono {S S' : TY} (l:Le2 S S') {c:Nat->Option Nat} {cs:List Value} (p:zau X S c cs):zau X S' c cs:=λi T h=>by
 obtain⟨v,h1,h2⟩:=p i T h
 grind[okC.mono]
def zck (h h' : AH) (b:Nat):Prop:=∀cs e,h.get b=some (.cells cs e false)->∃cs',h'.get b=some (.cells cs' e false)/\cs'.length=cs.length
theorem zck.of {h h' : AH} {b:Nat} (e:h'.get b=h.get b):zck h h' b:=λcs t k=>by grind
mutual
theorem zbv {S S' : TY} {h h' : AH} {L L' : Loc} {base:Nat} (l:Le2 S S'):∀(t:TV) (v:Value),(∀tag,zas tag t=true->L' tag=L tag)->(∀tag b c,zas tag t=true->L tag=some (b,c)->zck h h' b)->gam X S h L base t v->gam X S' h' L' base t v
 | .int k x,v,_,_,g=>by simp only[gam] at g ⊢; exact g
 | .bool b,v,_,_,g=>by simp only[gam] at g ⊢; exact g
 | .str s,v,_,_,g=>by simp only[gam] at g ⊢; exact g
 | .nilp,v,_,_,g=>by simp only[gam] at g ⊢; exact g
 | .nils,v,_,_,g=>by simp only[gam] at g ⊢; exact g
 | .loc tag off T,v,hL,_,g=>by
   simp only[gam] at g ⊢
   rw[hL tag (by simp[zas])]; exact g
 | .pp tag T,v,hL,_,g=>by
   simp only[gam] at g ⊢
   rw[hL tag (by simp[zas])]; exact g
 | .cp w fr T,v,_,_,g=>by
   simp only[gam] at g ⊢
   obtain⟨b,off,ro,e,c,h1,h2,h3⟩:=g
   exact⟨b,off,ro,e,c,h1,l.ty _ _ h2,h3⟩
 | .hp T,v,_,_,g=>by simp only[gam] at g ⊢; exact g.mono l
 | .np T z,v,_,_,g=>by
   simp only[gam] at g ⊢
   cases z
   ·exact zbr.mono l g
   ·exact g
 | .sl w fr kc T n,v,_,_,g=>by simp only[gam] at g ⊢; exact g.mono l
 | .ap tag T n kc,v,hL,hh,g=>by
   simp only[gam] at g ⊢
   obtain⟨hn,p,cp,h1,h2⟩:=g
   refine⟨hn,p,cp,h1,?_⟩
   rcases h2 with h2 | ⟨b,c,cs,e,q1,q2,q3,q3b,q4⟩
   ·exact .inl h2
   ·obtain⟨cs',k1,k2⟩:=hh tag b c (by simp[zas]) q2 cs e q3
    exact .inr ⟨b,c,cs',e,q1,by rw[hL tag (by simp[zas])]; exact q2,k1,q3b,by rw[k2]; exact q4⟩
 | .sp tag T n,v,hL,_,g=>by
   simp only[gam] at g ⊢
   rw[hL tag (by simp[zas])]; exact g
 | .xs q,v,_,_,g=>by
   simp only[gam] at g ⊢
   obtain⟨h0,b,off,c,ro,e,cs,h1,h2,h3,h4,h5⟩:=g
   exact⟨h0,b,off,c,ro,e,cs,h1,h2,h3,l.ty _ _ h4,h5⟩
 | .xp x,v,_,_,g=>by
   simp only[gam] at g ⊢
   obtain⟨b,off,ro,e,cs,h1,h2,h3⟩:=g
   exact⟨b,off,ro,e,cs,h1,l.ty _ _ h2,h3⟩
 | .aggT T,v,_,_,g=>by
   simp only[gam] at g ⊢
   obtain⟨vs,h1,h2,h3⟩:=g
   exact⟨vs,h1,h2,h3.mono l⟩
 | .agg q,v,hL,hh,g=>by
   simp only[gam] at g ⊢
   obtain⟨vs,h1,h2,h3⟩:=g
   exact⟨vs,h1,gams_mono l q vs (λtag ht=>hL tag (by simpa[zas] using ht)) (λtag b c ht=>hh tag b c (by simpa[zas] using ht)) h2,h3⟩
 | .tup q,v,hL,hh,g=>by
   simp only[gam] at g ⊢
   obtain⟨vs,h1,h2,h3⟩:=g
   exact⟨vs,h1,h2,gams_mono l q vs (λtag ht=>hL tag (by simpa[zas] using ht)) (λtag b c ht=>hh tag b c (by simpa[zas] using ht)) h3⟩
 | .fn f a c,v,hL,hh,g=>by
   simp only[gam] at g ⊢
   obtain⟨va,vc,h1,h2,h3⟩:=g
   exact⟨va,vc,h1,gams_mono l a va (λtag ht=>hL tag (by simp[zas,ht])) (λtag b c ht=>hh tag b c (by simp[zas,ht])) h2,
    gams_mono l c vc (λtag ht=>hL tag (by simp[zas,ht])) (λtag b c ht=>hh tag b c (by simp[zas,ht])) h3⟩
 | .skip,v,_,_,g=>by simp only[gam] at g ⊢; exact g
 | .any,v,_,_,g=>by simp only[gam]
theorem gams_mono {S S' : TY} {h h' : AH} {L L' : Loc} {base:Nat} (l:Le2 S S'):∀(ts:List TV) (vs:List Value),(∀tag,mentionsL tag ts=true->L' tag=L tag)->(∀tag b c,mentionsL tag ts=true->L tag=some (b,c)->zck h h' b)->gams X S h L base ts vs->gams X S' h' L' base ts vs
 | [],[],_,_,_=>by simp only[gams]
 | [],_ :: _,_,_,g=>by simp[gams] at g
 | _ :: _,[],_,_,g=>by simp[gams] at g
 | t :: ts,v :: vs,hL,hh,g=>by
   simp only[gams] at g ⊢
   exact⟨zbv l t v (λtag ht=>hL tag (by simp[mentionsL,ht])) (λtag b c ht=>hh tag b c (by simp[mentionsL,ht])) g.1,gams_mono l ts vs (λtag ht=>hL tag (by simp[mentionsL,ht])) (λtag b c ht=>hh tag b c (by simp[mentionsL,ht])) g.2⟩
end
mutual
theorem zbb (tag:Nat):∀(v:TV),zas tag v=true↔tag∈tagsOf v
 | .loc t _ _=>by simp only[zas,tagsOf,QD]; exact⟨λh=>(zdA.1 h).symm,λh=>zdA.2 h.symm⟩
 | .pp t _=>by simp only[zas,tagsOf,QD]; exact⟨λh=>(zdA.1 h).symm,λh=>zdA.2 h.symm⟩
 | .ap t _ _ _=>by simp only[zas,tagsOf,QD]; exact⟨λh=>(zdA.1 h).symm,λh=>zdA.2 h.symm⟩
 | .sp t _ _=>by simp only[zas,tagsOf,QD]; exact⟨λh=>(zdA.1 h).symm,λh=>zdA.2 h.symm⟩
 | .agg l=>by simp only[zas,tagsOf]; exact mentionsL_tags tag l
 | .tup l=>by simp only[zas,tagsOf]; exact mentionsL_tags tag l
 | .fn f a c=>by simp only[zas,tagsOf,Jh,QI]; rw[mentionsL_tags tag a,mentionsL_tags tag c]
 | .int _ _=>by simp[zas,tagsOf]
 | .bool _=>by simp[zas,tagsOf]
 | .str _=>by simp[zas,tagsOf]
 | .nilp=>by simp[zas,tagsOf]
 | .nils=>by simp[zas,tagsOf]
 | .cp _ _ _=>by simp[zas,tagsOf]
 | .hp _=>by simp[zas,tagsOf]
 | .np _ _=>by simp[zas,tagsOf]
 | .sl _ _ _ _ _=>by simp[zas,tagsOf]
 | .xs _=>by simp[zas,tagsOf]
 | .xp _=>by simp[zas,tagsOf]
 | .aggT _=>by simp[zas,tagsOf]
 | .skip=>by simp[zas,tagsOf]
 | .any=>by simp[zas,tagsOf]
theorem mentionsL_tags (tag:Nat):∀(l:List TV),mentionsL tag l=true↔tag∈tagsOfL l
 | []=>by simp[mentionsL,tagsOfL]
 | v :: l=>by simp only[mentionsL,tagsOfL,Jh,QI]; rw[zbb tag v,mentionsL_tags tag l]
end
theorem zcA {l:List TV}:tagsOfL l=[]↔∀v∈l,tagsOf v=[]:=by induction l<;>grind[tagsOfL,List.append_eq_nil_iff]
theorem ze1 {l:List TV} (h:tagsOfL l=[]) {i:Nat} {v:TV} (hv:l[i]?= some v):tagsOf v=[]:=by grind[zcA]
theorem ziq {l m:List TV} (h:tagsOfL l=[]) (hs:∀v∈m,v∈l):tagsOfL m=[]:=by grind[zcA]
theorem zbc {S S' : TY} {h h' : AH} {L L' : Loc} {base:Nat} (l:Le2 S S') {t:TV} {v:Value} (ht:tagsOf t=[]) (g:gam X S h L base t v):gam X S' h' L' base t v:=
 by grind[zbv,zbb]
theorem zcf {S S' : TY} {h h' : AH} {L L' : Loc} {base:Nat} (l:Le2 S S') {t:List TV} {v:List Value} (ht:tagsOfL t=[]) (g:gams X S h L base t v):gams X S' h' L' base t v:=
 by grind[gams_mono,mentionsL_tags]
theorem zbH {S:TY} {h:AH} {L:Loc} {base:Nat}:∀{t:List TV} {v:List Value},gams X S h L base t v->t.length=v.length
 | [],[],_=>rfl
 | [],_ :: _,g=>by grind[gams]
 | _ :: _,[],g=>by grind[gams]
 | _ :: _,_ :: _,g=>by simp[zbH g.2]
theorem zcR {S:TY} {h:AH} {L:Loc} {base:Nat}:∀{t:List TV} {v:List Value},gams X S h L base t v->∀{i:Nat} {x:TV},t[i]?= some x->∃y,v[i]?= some y/\gam X S h L base x y
 | [],[],_,i,x,e=>by grind
 | [],_ :: _,g,_,_,_=>by grind
 | _ :: _,[],g,_,_,_=>by grind[gams]
 | t :: ts,v :: vs,g,0,x,e=>by grind[gams]
 | t :: ts,v :: vs,g,i+1,x,e=>by simpa using zcR g.2 e
theorem znF {S:TY} {h:AH} {L:Loc} {base:Nat}:∀{t:List TV} {v:List Value},t.length=v.length->(∀(i:Nat) x y,t[i]?= some x->v[i]?= some y->gam X S h L base x y)->gams X S h L base t v
 | [],[],_,_=>by grind[gams]
 | [],_ :: _,e,_=>by grind
 | _ :: _,[],e,_=>by grind
 | t :: ts,v :: vs,e,k=>by
   exact⟨k 0 t v rfl rfl,znF (by grind) λi x y h1 h2=>k (i+1) x y (by grind) (by grind)⟩
theorem zfv {S:TY} {h:AH} {L:Loc} {base:Nat} {t:List TV} {v:List Value} (g:gams X S h L base t v) (n:Nat):gams X S h L base (t.take n) (v.take n):=by grind[znF,zbH,zcR]
theorem zfw {S:TY} {h:AH} {L:Loc} {base:Nat} {t:List TV} {v:List Value} (g:gams X S h L base t v) (n:Nat):gams X S h L base (t.drop n) (v.drop n):=by grind[znF,zbH,zcR]
theorem zcB {S:TY} {h:AH} {L:Loc} {base:Nat}:∀{t t' : List TV} {v v' : List Value},gams X S h L base t v->gams X S h L base t' v'->gams X S h L base (t ++ t') (v ++ v')
 | [],_,[],_,_,k=>k
 | [],_,_ :: _,_,g,_=>by grind[gams]
 | _ :: _,_,[],_,g,_=>by grind[gams]
 | _ :: _,_,_ :: _,_,g,k=>by exact⟨g.1,zcB g.2 k⟩
end
section
variable {X:Cx}
def Prv (S:TY) (h:AH) (base b:Nat):Prop:=base<=b/\b < h.next/\S.ty b=none/\¬S.dv b
def okP (X:Cx) (S:TY) (h:AH) (L:Loc) (base tag:Nat):PC->Prop
 | .tv t l=>∃b cs,L tag=some (b,zcO X t)/\Prv S h base b/\h.get b=some (.cells cs t false)/\gams X S h L base l cs/\(∀x∈cs,zbi x=true)/\tagsOfL l=[]
 | .ty t=>∃b cs,L tag=some (b,zcO X t)/\Prv S h base b/\h.get b=some (.cells cs t false)/\zau X S (zcO X t) cs
 | .rows T e=>L tag=none\/∃b c cs,L tag=some (b,c)/\Prv S h base b/\h.get b=some (.cells cs e false)/\zau X S c cs
def zoO (σ:Sx) (v:TV):Prop:=∀tag,tag∈tagsOf v->∃c,zaD σ.pv tag=some c
structure G (X:Cx) (pu:Bool) (base:Nat) (S0:TY) (h0:AH) (S:TY) (h:AH) (L:Loc) (σ:Sx) (e:Env):Prop where
 wt:WT X S σ.g h
 ext:Xt base S0 S
 nx:base<=h.next
 fr:∀b,b < base->(pu=true\/(S0.ty b=none/\¬S0.dv b))->h.get b=h0.get b
 sl:∀t v,σ.a.get t=some v->∃x,e.get t=some x/\gam X S h L base v x/\zoO σ v
 pv:∀tag c,zaD σ.pv tag=some c->okP X S h L base tag c
 inj:∀t1 t2 p1 p2 b c1 c2,zaD σ.pv t1=some p1->zaD σ.pv t2=some p2->L t1=some (b,c1)->L t2=some (b,c2)->t1=t2
structure XOk (X:Cx):Prop where
 dfr:∀S g h h',X.D S g h->(∀b,S.dv b->h'.get b=h.get b)->h.next<=h'.next->X.D S g h'
 dS:∀S S' g h,X.D S g h->S'.dev=S.dev->(∀b,S'.dv b↔S.dv b)->X.D S' g h
 field:∀(s:TypeId) (fs:Array Field) (f:Nat) (fd:Field),und X s=some (.struct fs)->fs[f]?= some fd->∀i ct,(X.fl fd.type)[i]?= some ct->(X.fl s)[fd.offset+i]?= some ct
 fieldLe:∀(s:TypeId) (fs:Array Field) (f:Nat) (fd:Field),und X s=some (.struct fs)->fs[f]?= some fd->fd.offset+sz X fd.type<=sz X s
 elemLe:∀t n e,und X t=some (.array n e)->∀j,j < n->j * sz X e+sz X e<=sz X t
 elem:∀t n e,und X t=some (.array n e)->∀j,j < n->∀i ct,(X.fl e)[i]?= some ct->(X.fl t)[j * sz X e+i]?= some ct
 cells:∀t,(inf X t).isSome=true->X.P.cellsOf t=sz X t
 info:∀t d,und X t=some d->(inf X t).isSome=true
 one:∀t,isAgg X t=some false->X.fl t=[t]
 agg:∀t,isAgg X t=some true->ck X t=.no
 pos:∀t,isAgg X t=some true->0 < sz X t
 r4:X.fl r4=[r4]
 sh:∀T,shB T=true->X.fl T=[T]
 sp1:∀T,spN T=true->(inf X T).isSome=true->sz X T=1
 ke:∀S t vs,X.ke t=true->vs.length=sz X t->zau X S (zcO X t) vs->∃la,zdL X.P t (.agg vs.toArray)=some la
 ka:∀t,X.ke t=true->isAgg X t=some true
 kt:∀t,X.ke t=true->X.P.keyTypeAt 40 t=true
 zero:∀t,(inf X t).isSome=true->zg7 X t=true->∃zs,zao X.P t=some zs/\zs.length=sz X t/\∀S,zau X S (zcO X t) zs
 zc:∀t i,inf X t=some i->zg7 X t=true->∃z,i.zero=some z/\z.cells.size=i.size
 zeros:∀t l,zkJ X t=true->zeros X (X.fl t)=some l->∃zs,zao X.P t=some zs/\(∀x∈zs,zbi x=true)/\∀S h L base,gams X S h L base l zs
section
variable {pu:Bool} {base:Nat} {S0:TY} {h0:AH} {S:TY} {h:AH} {L:Loc} {σ:Sx} {e:Env}
theorem WT.keep {g:Int} {h' : AH} (O:XOk X) (w:WT X S g h) (hn:h.next<=h'.next) (hg:∀b,b < h.next->((∃q,S.ty b=some q)\/S.dv b)->h'.get b=h.get b):WT X S g h':=by
 refine⟨λb ro e c hb=>?_,λb hb=>Qi (w.2.1 b hb) hn,O.dfr _ _ _ _ w.2.2 (λb hb=>hg b (w.2.1 b hb) (.inr hb)) hn⟩
 obtain⟨h1,h2,h3⟩:=w.1 b ro e c hb
 grind
theorem okP.keep {h' : AH} {L' : Loc} {tag:Nat} {c:PC} (o:okP X S h L base tag c) (hn:h.next<=h'.next) (hL:L' tag=L tag) (hg:∀b d,L tag=some (b,d)->h'.get b=h.get b):okP X S h' L' base tag c:=by
 cases c with
 | tv t l=>
   obtain⟨b,cs,h1,⟨p1,p2,p3⟩,h2,h3,h4,h5⟩:=o
   exact⟨b,cs,hL.trans h1,⟨p1,by omega,p3⟩,by grind,zcf (Le2.refl _) h5 h3,h4,h5⟩
 | ty t=>
   obtain⟨b,cs,h1,⟨p1,p2,p3⟩,h2,h3⟩:=o
   exact⟨b,cs,hL.trans h1,⟨p1,by omega,p3⟩,by grind,h3⟩
 | rows T e=>
   rcases o with o | ⟨b,c,cs,h1,⟨p1,p2,p3⟩,h2,h3⟩
   ·exact .inl (hL.trans o)
   ·exact .inr ⟨b,c,cs,hL.trans h1,⟨p1,by omega,p3⟩,by grind,h3⟩
theorem okP.prv {tag:Nat} {c:PC} (o:okP X S h L base tag c) {b:Nat} {d:Nat->Option Nat} (hL:L tag=some (b,d)):Prv S h base b:=by
 cases c with
 | tv t l=>obtain⟨b',cs,h1,p,_⟩:=o; grind
 | ty t=>obtain⟨b',cs,h1,p,_⟩:=o; grind
 | rows T e=>
   rcases o with o | ⟨b',c,cs,h1,p,_⟩
   all_goals grind
theorem za4 {d tag:Nat} {c:PC} {σ:Sx}:zaD (zbf d c σ).pv tag=if tag=d then some c else zaD σ.pv tag:=by grind[zbf,zaD,Qb,QG,zbq]
theorem zfx {d t:Nat} {c:PC} {σ:Sx} {v:TV} (hv:(zbf d c σ).a.get t=some v):σ.a.get t=some v/\zas d v=false:=by grind[zbf,zd3,zwn]
theorem zrX {d tag:Nat} {v:TV} (hm:zas d v=false) (ht:tag∈tagsOf v):tag≠d:=by grind[zbb]
theorem G.new (O:XOk X) (g:G X pu base S0 h0 S h L σ e) (d:Nat) (pc:PC) (o:zca) (c:Nat->Option Nat)
 (hp:okP X S (h.alloc o) (λu=>if u=d then some (h.next,c) else L u) base d pc):
 G X pu base S0 h0 S (h.alloc o) (λu=>if u=d then some (h.next,c) else L u) (zbf d pc σ) e where
 wt:=WT.keep O g.wt (Qw _) λb hb _=>by grind[AH.get_alloc]
 ext:=g.ext
 nx:=Qm g.nx (Qw _)
 fr:=λb hb q=>by rw[AH.get_alloc,if_neg (Nat.ne_of_lt (Qi hb g.nx))]; grind[fr]
 sl:=λt v hv=>by
  obtain⟨h1,h2⟩:=zfx hv
  obtain⟨x,h3,h4,h5⟩:=g.sl t v h1
  refine⟨x,h3,zbv (Le2.refl _) v x (by grind) (λtag b c' ht hL=>?_) h4,λtag ht=>?_⟩
  ·obtain⟨c0,hc0⟩:=h5 tag (by grind[zbb])
   have:=(g.pv tag c0 hc0).prv hL
   exact zck.of (by rw[AH.get_alloc,if_neg (Nat.ne_of_lt this.2.1)])
  ·obtain⟨c0,hc0⟩:=h5 tag ht
   grind[za4]
 pv:=λtag c0 hc=>by
  rw[za4] at hc
  split at hc
  ·grind
  ·rename_i ht
   exact (g.pv tag c0 hc).keep (Qw _) (if_neg ht) λb d' hL=>by
    have:=(g.pv tag c0 hc).prv hL
    rw[AH.get_alloc,if_neg (Nat.ne_of_lt this.2.1)]
 inj:=λt1 t2 p1 p2 b c1 c2 h1 h2 k1 k2=>by
  rw[za4] at h1 h2
  have lt:∀t p c',t≠d->(if t=d then some pc else zaD σ.pv t)=some p->(if t=d then some (h.next,c) else L t)=some (b,c')->b < h.next:=by
   intro t p c' ht q1 q2
   rw[if_neg ht] at q1 q2
   exact ((g.pv t p q1).prv q2).2.1
  by_cases e1:t1=d
  ·grind
  ·by_cases e2:t2=d
   ·grind
   ·rw[if_neg e1] at h1 k1
    rw[if_neg e2] at h2 k2
    exact g.inj t1 t2 p1 p2 b c1 c2 h1 h2 k1 k2
theorem G.put (g:G X pu base S0 h0 S h L σ e) (d:Option Tmp) {v:TV} {x:Value} (hg:gam X S h L base v x) (hp:zoO σ v):G X pu base S0 h0 S h L (zu8 σ d v) (putO e d x):=by
 cases d with
 | none=>exact g
 | some d=>
   refine { g with sl:=λt u hu=>?_ }
   ·simp only[zu8,Tr.get_set] at hu
    simp only[zdT,Tr.get_set]
    split at hu
    ·rename_i q
     cases hu
     rw[if_pos q]
     exact⟨x,rfl,hg,hp⟩
    ·rename_i q
     rw[if_neg q]
     exact g.sl t u hu
theorem G.val (g:G X pu base S0 h0 S h L σ e) {o:Operand} {v:TV} (hv:evT σ.a o=some v):gam X S h L base v (ev e o)/\zoO σ v:=by
 cases o with
 | tmp t=>
   obtain⟨x,h1,h2,h3⟩:=g.sl t v hv
   grind[zdH]
 | global i=>cases hv
 | func f=>
   cases hv
   refine⟨?_,λtag ht=>by grind[tagsOf,tagsOfL]⟩
   exact⟨[],[],rfl,by grind[gams],by grind[gams]⟩
 | const c=>
   simp only[evT] at hv
   have key:gam X S h L base v c/\zgJ c=true/\tagsOf v=[]:=by
    unfold zu9 at hv
    split at hv
    ·cases hv; exact⟨by rfl,rfl,rfl⟩
    ·split at hv
     ·rename_i q
      cases hv
      exact⟨by grind[gam],rfl,rfl⟩
     grind
    ·split at hv
     ·rename_i q
      cases hv
      exact⟨by simp only[gam]; exact⟨trivial,Qr q⟩,rfl,rfl⟩
     grind
    ·cases hv; exact⟨by rfl,rfl,rfl⟩
    ·cases hv; exact⟨by rfl,rfl,rfl⟩
    grind
   obtain⟨k1,k2,k3⟩:=key
   simp only[ev,k2,cond_true]
   exact⟨k1,λtag ht=>by grind⟩
end
end
end Go.Am
