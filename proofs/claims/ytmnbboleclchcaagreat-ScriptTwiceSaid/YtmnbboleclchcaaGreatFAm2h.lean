/-
  Texts of this proof, part 5. No condition.
-/
import Derived.Test.YtmnbboleclchcaaGreatFAm2f
set_option linter.unusedVariables false
set_option linter.unusedSimpArgs false
namespace Go.Am
section
variable {P:Program} {φ φ' : Fi} {h h' : AH} {w w' : World}
theorem zqz:∀(a b:Lit),zpi a b=true↔a=b:=by
 intro a b
 cases a <;> cases b <;> simp[zpi]
theorem zc9:∀(a b:List Lit),litsEq a b=true↔a=b
 | [],[]=>by simp[litsEq]
 | [],_ :: _=>by simp[litsEq]
 | _ :: _,[]=>by simp[litsEq]
 | a :: as,b :: bs=>by simp[litsEq,zqz,zc9 as bs]
theorem LR.single {v:Value} {ds:List Value} (h:LR φ [v] ds):∃d,ds=[d]/\VR φ v d:=by cases ds<;>grind[LR]
theorem zhJ {α:Type} {f g:α->Option (List Lit)}:∀(l:List α) {r:List (List Lit)},(∀x∈l,∀y,f x=some y->g x=some y)->l.mapM f=some r->l.mapM g=some r
 | [],r,_,h=>by grind
 | x :: l,r,hk,h=>by
   rw[List.mapM_cons] at h ⊢
   simp only[bind,Option.bind_eq_some_iff,pure,Qa] at h ⊢
   obtain⟨y,hy,ys,hys,rfl⟩:=h
   exact⟨y,hk x (by simp) y hy,ys,zhJ l (by grind) hys,rfl⟩
theorem zfX:∀(D:Nat) (t:TypeId) {cs ds:List Value} {l:List Lit},LR φ cs ds->P.keyLits D t cs=some l->P.keyLits D t ds=some l
 | 0,_,_,_,_,_,h=>by simp[Program.keyLits] at h
 | D+1,t,cs,ds,l,r,h=>by
   unfold Program.keyLits at h ⊢
   split at h
   ·obtain⟨d,rfl,hv⟩:=r.single
    cases hv
    grind
   ·obtain⟨d,rfl,hv⟩:=r.single
    cases hv
    grind
   ·obtain⟨d,rfl,hv⟩:=r.single
    cases hv
    grind
   ·rename_i n e hu
    simp only[hu]
    rw[<-r.length]
    split at h
    ·rename_i hl
     rw[if_pos hl]
     simp only[Qk] at h ⊢
     obtain⟨as,ha,rfl⟩:=h
     exact⟨as,zhJ _ (λi _ y hy=>zfX D e ((r.drop _).take _) hy) ha,rfl⟩
    grind
   ·rename_i fs hu
    simp only[hu]
    rw[<-r.length]
    split at h
    ·rename_i hl
     rw[if_pos hl]
     simp only[Qk] at h ⊢
     obtain⟨as,ha,rfl⟩:=h
     exact⟨as,zhJ _ (λf _ y hy=>zfX D f.type ((r.drop _).take _) hy) ha,rfl⟩
    grind
   grind
theorem zeV:∀(m:Nat) (t:TypeId) (D:Nat),m<=D->P.keyTypeAt m t=true->P.eqGuardType D t=false
 | 0,_,_,_,h=>by grind[Program.keyTypeAt]
 | m+1,t,0,hD,h=>by omega
 | m+1,t,D+1,hD,h=>by
   unfold Program.keyTypeAt at h
   unfold Program.eqGuardType
   split at h
   ·grind
   ·grind
   ·grind
   ·rename_i e hu
    simp only[hu]
    exact zeV m e D (by omega) h
   ·rename_i fs hu
    simp only[hu]
    simp only[Qd,QJ] at h
    have hall:=h.1.1
    rw[Array.any_eq_false]
    intro i hi
    have hf:=Array.all_eq_true.1 hall i hi
    simp only[Qd] at hf
    simp[zeV m _ D (by omega) hf.2]
   grind
theorem VR.formed {v v' : Value} (r:VR φ v v') {t:TypeId} (h:v.formed P t=true):v'.formed P t=true:=by
 cases r <;> first | exact h | (simp[Value.formed] at h; done) | skip
 grind[Value.formed]
theorem zeW {t:TypeId} {v v' : Value} {l:List Lit} (hk:zdL P t v=some l) (r:VR φ v v'):v'.formed P t=true/\v.formed P t=true/\P.keyLits 40 t v'.cells.toList=some l/\P.keyLits 40 t v.cells.toList=some l:=by
 unfold zdL at hk
 cases hf:v.formed P t with
 | false=>grind
 | true=>
   simp only[hf,cond_true] at hk
   refine⟨r.formed hf,rfl,zfX 40 t (r.cells ?_) hk,hk⟩
   grind[Value.formed]
theorem zqA {t:TypeId} {x x' y y' : Value} {la lb:List Lit} (hk:P.keyTypeAt 40 t=true) (hx:zdL P t x=some la) (hy:zdL P t y=some lb) (rx:VR φ x x') (ry:VR φ y y') (w:World):
 (Op.equal t x' y').run P w=.ok (litsEq la lb) w:=by
 obtain⟨f1,_,k1,_⟩:=zeW hx rx
 obtain⟨f2,_,k2,_⟩:=zeW hy ry
 obtain⟨r,hr,hiff⟩:=run_equalIn_deep (P:=P) 9960 40 t hk w 40 40 x' y' la lb f1 f2 k1 k2
 have:r=litsEq la lb:=by grind[zc9]
 rw[<-this]
 exact hr
theorem zhK (d:Nat) {t e:TypeId} (hu:P.underlying t=some (.pointer e)) (b:Option Addr) (w:World):(Op.equalIn (d+1) t (.pointer none) (.pointer b)).run P w=.ok b.isNone w:=by
 simp[Op.equalIn,zac hu]
theorem zhL (d:Nat) {t e:TypeId} (hu:P.underlying t=some (.pointer e)) (a:Addr) (w:World):(Op.equalIn (d+1) t (.pointer (some a)) (.pointer none)).run P w=.ok false w:=by
 simp[Op.equalIn,zac hu]
theorem zj9 (d:Nat) {t:TypeId} {a b:Array TypeId} {c:Bool} (hu:P.underlying t=some (.func a b c)) (w:World):(Op.equalIn (d+1) t .nilFunc .nilFunc).run P w=.ok true w:=by
 simp[Op.equalIn,zac hu]
theorem zka (d:Nat) {t:TypeId} {a b:Array TypeId} {c:Bool} (hu:P.underlying t=some (.func a b c)) (f:Fn) (x y:Array Value) (w:World):(Op.equalIn (d+1) t (.func f x y) .nilFunc).run P w=.ok false w:=by
 simp[Op.equalIn,zac hu]
theorem zkb (d:Nat) {t:TypeId} {a b:Array TypeId} {c:Bool} (hu:P.underlying t=some (.func a b c)) (f:Fn) (x y:Array Value) (w:World):(Op.equalIn (d+1) t .nilFunc (.func f x y)).run P w=.ok false w:=by
 simp[Op.equalIn,zac hu]
theorem zli (d:Nat) {t:TypeId} (hu:P.underlying t=some .bool) (a b:Bool) (w:World):(Op.equalIn (d+1) t (.bool a) (.bool b)).run P w=.ok (a == b) w:=by
 simp[Op.equalIn,zac hu]
theorem zeC (d:Nat) {t e:TypeId} (hu:P.underlying t=some (.slice e)) (a:Option Addr) (n c n' c' : Nat) (w:World):(Op.equalIn (d+1) t (.slice a n c) (.slice none n' c')).run P w=.ok a.isNone w:=by
 cases a <;> simp[Op.equalIn,zac hu]
theorem zlj (d:Nat) {t k e:TypeId} (hu:P.underlying t=some (.map k e)) (a:Option Nat) (w:World):(Op.equalIn (d+1) t (.map a) (.map none)).run P w=.ok a.isNone w:=by
 cases a <;> simp[Op.equalIn,zac hu]
theorem zlk (d:Nat) {t k e:TypeId} (hu:P.underlying t=some (.map k e)) (a:Nat) (w:World):(Op.equalIn (d+1) t (.map none) (.map (some a))).run P w=.ok false w:=by
 simp[Op.equalIn,zac hu]
theorem zhM (op:BinOp) (t:TypeId) (xo yo:Operand) (a b:Option Addr) (n c n' c' : Nat) (w:World):(eqGuard op t xo yo (.slice a n c) (.slice b n' c')).run P w=.ok () w:=by
 cases op <;> rfl
theorem zll (op:BinOp) (t:TypeId) (xo yo:Operand) (a b:Option Nat) (w:World):(eqGuard op t xo yo (.map a) (.map b)).run P w=.ok () w:=by
 cases op <;> rfl
theorem zoq (G:zdM P) {t:TypeId} {x x' y y' : Value} {b:Bool} (hs:aEq P t x y=some b) (hx:VR φ x x') (hy:VR φ y y') (xo yo:Operand) (op:BinOp) (w:World):
 (eqGuard op t xo yo x' y').run P w=.ok () w/\(Op.equal t x' y').run P w=.ok b w/\(∀k n,x'≠.int k n)/\(∀k n,x'≠.float k n)/\(∀k n m,x'≠.complex k n m)/\(∀s,x'≠.string s):=by
 unfold aEq at hs
 split at hs
 ·rename_i a c
  split at hs
  ·rename_i hu
   simp only[Qa] at hs
   subst hs
   cases hx; cases hy
   exact⟨by rw[eqGuard_at_bool]; rfl,zli 9999 hu a c w,by simp,by simp,by simp,by simp⟩
  grind
 ·split at hs
  ·rename_i la lb hk ha hb
   simp only[Qa] at hs
   have heq:=zqA hk ha hb hx hy w
   obtain⟨xs',rfl,hlx⟩:=hx.toLR
   obtain⟨ys',rfl,hly⟩:=hy.toLR
   have hg:=zeV 40 t P.depth (by grind[zdM.depth]) hk
   grind[run_eqGuard_agg]
  grind
 ·split at hs
  ·rename_i hu
   simp only[Qa] at hs
   subst hs
   cases hx
   cases hy <;> exact⟨by rw[eqGuard_at_pointer]; rfl,zhK 9999 hu _ w,by simp,by simp,by simp,by simp⟩
  grind
 ·split at hs
  ·rename_i hu
   simp only[Qa] at hs
   subst hs
   cases hx
   cases hy
   exact⟨by rw[eqGuard_at_pointer]; rfl,zhL 9999 hu _ w,by simp,by simp,by simp,by simp⟩
  grind
 ·split at hs
  ·rename_i hu
   simp only[Qa] at hs
   subst hs
   cases hy
   cases hx
   exact⟨zhM ..,zeC 9999 hu _ _ _ _ _ w,by simp,by simp,by simp,by simp⟩
  grind
 ·split at hs
  ·rename_i hu hnc
   simp only[Qa] at hs
   subst hs
   cases hy
   cases hx <;> first
    | exact⟨zhM ..,zeC 9999 hu _ _ _ _ _ w,by simp,by simp,by simp,by simp⟩
    | (exfalso; simp at *; done)
    | grind
  grind
 ·split at hs
  ·rename_i hu
   simp only[Qa] at hs
   subst hs
   cases hy
   cases hx <;> exact⟨zll ..,zlj 9999 hu _ w,by simp,by simp,by simp,by simp⟩
  grind
 ·split at hs
  ·rename_i hu
   simp only[Qa] at hs
   subst hs
   cases hx
   cases hy
   exact⟨zll ..,zlk 9999 hu _ w,by simp,by simp,by simp,by simp⟩
  grind
 ·split at hs
  ·rename_i hu
   simp only[Qa] at hs
   subst hs
   cases hx
   cases hy
   exact⟨by rw[eqGuard_at_nilFunc]; rfl,zj9 9999 hu w,by simp,by simp,by simp,by simp⟩
  grind
 ·split at hs
  ·rename_i hu
   simp only[Qa] at hs
   subst hs
   cases hx
   cases hy
   exact⟨by rw[eqGuard_at_func]; rfl,zka 9999 hu _ _ _ w,by simp,by simp,by simp,by simp⟩
  grind
 ·split at hs
  ·rename_i hu
   simp only[Qa] at hs
   subst hs
   cases hx
   cases hy
   exact⟨by rw[eqGuard_at_nilFunc]; rfl,zkb 9999 hu _ _ _ w,by simp,by simp,by simp,by simp⟩
  grind
 grind
theorem ztp {op:BinOp} {k:IntKind} {a b:Int} {v:Value} (hs:zgK op k a b=some v) (t:TypeId) (w:World):(binOp op t (.int k a) (.int k b)).run P w=.ok v w:=by
 cases op <;> simp only[zgK,Qa] at hs <;>
  first
  | (subst hs; simp[binOp,Op.intArith,Op.intBits,Op.intCmp]; done)
  | (simp at hs; done)
  | (by_cases h0:b=0; (simp[h0] at hs); (simp only[h0,if_false,Qa] at hs; subst hs; simp[binOp,Op.intDiv,h0]))
theorem zvG {φ:Fi} {op:BinOp} {k:IntKind} {a b:Int} {v:Value} (hs:zgK op k a b=some v):VR φ v v:=by
 cases op <;> simp only[zgK,Qa] at hs <;>
  first
  | (subst hs; exact .int _ _)
  | (subst hs; exact .bool _)
  | (simp at hs; done)
  | (by_cases h0:b=0; (simp[h0] at hs); (simp only[h0,if_false,Qa] at hs; subst hs; exact .int _ _))
theorem ztq {op:UnOp} {x x' u:Value} (hs:aUn op x=some u) (hx:VR φ x x') (w:World):∃u',(Op.unary op x').run P w=.ok u' w/\VR φ u u':=by
 unfold aUn at hs
 split at hs
 ·simp only[Qa] at hs
  subst hs
  cases hx
  exact⟨_,by rfl,.int _ _⟩
 ·simp only[Qa] at hs
  subst hs
  cases hx
  exact⟨_,by rfl,.int _ _⟩
 ·simp only[Qa] at hs
  subst hs
  cases hx
  exact⟨_,by rfl,.bool _⟩
 grind
theorem zqB (G:zdM P) {op:BinOp} {t:TypeId} {x x' y y' u:Value} (hs:zfV P op t x y=some u) (hx:VR φ x x') (hy:VR φ y y') (xo yo:Operand) (w:World):
 ∃u',((do eqGuard op t xo yo x' y'; binOp op t x' y' : Sem Value)).run P w=.ok u' w/\VR φ u u':=by
 unfold zfV at hs
 split at hs
 ·cases hx; cases hy
  split at hs
  ·unfold zaV at hs
   split at hs
   ·grind
   ·rename_i h0
    simp only[Qa] at hs
    subst hs
    exact⟨_,by rw[eqGuard_at_int]; simp[binOp,Op.shift,h0],.int _ _⟩
  ·unfold zaV at hs
   split at hs
   ·grind
   ·rename_i h0
    simp only[Qa] at hs
    subst hs
    exact⟨_,by rw[eqGuard_at_int]; simp[binOp,Op.shift,h0],.int _ _⟩
  ·split at hs
   ·rename_i hk
    refine⟨u,?_,zvG hs⟩
    grind[eqGuard_at_int,ztp]
   grind
 ·rename_i a b
  cases hx; cases hy
  unfold zvD at hs
  split at hs
  ·split at hs
   ·simp only[Qa] at hs
    subst hs
    have:¬(9223372036854775807 < (a.size:Int)+b.size):=by omega
    exact⟨_,by rw[eqGuard_at_string]; simp[binOp,Op.stringOp,this],.string _⟩
   grind
  ·simp only[Qa] at hs
   subst hs
   exact⟨_,by rw[eqGuard_at_string]; simp[binOp,Op.stringOp,beq_toListBytes],.bool _⟩
  ·simp only[Qa] at hs
   subst hs
   exact⟨_,by rw[eqGuard_at_string]; simp[binOp,Op.stringOp,beq_toListBytes],.bool _⟩
  ·simp only[Qa] at hs
   subst hs
   exact⟨_,by rfl,.bool _⟩
  grind
 ·split at hs
  ·cases he:aEq P t x y with
   | none=>grind
   | some b=>
     simp only[he,Ql,Qa] at hs
     subst hs
     obtain⟨h1,h2,h3,h4,h5,h6⟩:=zoq G he hx hy xo yo .eql w
     refine⟨.bool b,?_,.bool _⟩
     have:binOp .eql t x' y'= (do pure (.bool (<-Op.equal t x' y'))):=by
      unfold binOp
      grind
     simp_all
  ·cases he:aEq P t x y with
   | none=>grind
   | some b=>
     simp only[he,Ql,Qa] at hs
     subst hs
     obtain⟨h1,h2,h3,h4,h5,h6⟩:=zoq G he hx hy xo yo .neq w
     refine⟨.bool (!b),?_,.bool _⟩
     have:binOp .neq t x' y'= (do pure (.bool (!(<-Op.equal t x' y')))):=by
      unfold binOp
      grind
     simp_all
  grind
end
section
variable {P:Program} {φ φ' : Fi} {h h' : AH} {w w' : World}
theorem ER.length:∀{xs ys:List MapEntry},ER φ xs ys->xs.length=ys.length
 | [],[],_=>rfl
 | _ :: _,_ :: _,r=>by simp[ER.length r.2.2.2]
theorem ER.at:∀{xs ys:List MapEntry},ER φ xs ys->∀(i:Nat) (e:MapEntry),xs[i]?= some e->∃e',ys[i]?= some e'/\VR φ e.key e'.key/\VR φ e.val e'.val/\e.born=e'.born
 | [],[],_,i,e,h=>by grind
 | _ :: _,y :: _,r,0,e,h=>by simp at h; subst h; exact⟨y,rfl,r.1,r.2.1,r.2.2.1⟩
 | _ :: _,_ :: _,r,i+1,e,h=>by simpa using ER.at r.2.2.2 i e h
theorem ER.append:∀{xs ys us vs:List MapEntry},ER φ xs ys->ER φ us vs->ER φ (xs ++ us) (ys ++ vs)
 | [],[],_,_,_,k=>k
 | _ :: _,_ :: _,_,_,r,k=>⟨r.1,r.2.1,r.2.2.1,ER.append r.2.2.2 k⟩
theorem ER.modify:∀{xs ys:List MapEntry} (i:Nat) {k k' v v' : Value},ER φ xs ys->VR φ k k'->VR φ v v'->ER φ (xs.modify i λe=>{ e with key:=k,val:=v }) (ys.modify i λe=>{ e with key:=k',val:=v' })
 | [],[],_,_,_,_,_,_,_,_=>by grind
 | _ :: _,_ :: _,0,_,_,_,_,r,hk,hv=>⟨hk,hv,r.2.2.1,r.2.2.2⟩
 | _ :: _,_ :: _,i+1,_,_,_,_,r,hk,hv=>⟨r.1,r.2.1,r.2.2.1,ER.modify i r.2.2.2 hk hv⟩
theorem ER.eraseIdx:∀{xs ys:List MapEntry} (i:Nat),ER φ xs ys->ER φ (xs.eraseIdx i) (ys.eraseIdx i)
 | [],[],_,_=>by grind
 | _ :: _,_ :: _,0,r=>r.2.2.2
 | _ :: _,_ :: _,i+1,r=>⟨r.1,r.2.1,r.2.2.1,ER.eraseIdx i r.2.2.2⟩
def zhN (P:Program) (φ:Fi) (kt:TypeId) (la:List Lit) (es:List MapEntry) (i:Nat):Option (Nat×Value)->Option (Nat×Value)->Prop
 | none,none=>True
 | some (j,v),some (j',v')=>j=j'/\VR φ v v'/\i<=j/\(∃e,es[j - i]?= some e/\e.val=v/\zdL P kt e.key=some la)
 | _,_=>False
theorem zhN.cons {kt:TypeId} {la:List Lit} {e:MapEntry} {es:List MapEntry} {i:Nat} {o o' : Option (Nat×Value)} (h:zhN P φ kt la es (i+1) o o'):zhN P φ kt la (e :: es) i o o':=by
 cases o <;> cases o' <;> try exact h
 obtain⟨g1,g2,g3,g4,g5⟩:=h
 refine⟨g1,g2,by omega,g4,?_⟩
 grind
theorem zdI {kt:TypeId} (hk:P.keyTypeAt 40 kt=true) {k k' : Value} {la:List Lit} (ha:zdL P kt k=some la) (rk:VR φ k k') (w:World):
 ∀(es es' : List MapEntry) (i:Nat) (o:Option (Nat×Value)),ER φ es es'->zfa P kt la es i=some o->
  ∃o',(Instr.findAsking kt k' es' i).run P w=.ok o' w/\zhN P φ kt la es i o o'
 | [],[],i,o,_,hf=>by
   simp only[zfa,Qa] at hf
   subst hf
   exact⟨none,by rfl,trivial⟩
 | e :: es,e' :: es',i,o,r,hf=>by
   unfold zfa at hf
   cases hb:zdL P kt e.key with
   | none=>grind
   | some lb=>
     simp only[hb] at hf
     have heq:=zqA hk ha hb rk r.1 w
     cases hl:litsEq la lb with
     | true=>
       simp only[hl,cond_true,Qa] at hf
       subst hf
       have:la=lb:=(by grind[zc9])
       subst this
       exact⟨some (i,e'.val),by simp[Instr.findAsking,heq,hl],rfl,r.2.1,Qc _,e,by simp,rfl,hb⟩
     | false=>
       simp only[hl,cond_false] at hf
       obtain⟨o',h1,h2⟩:=zdI hk ha rk w es es' (i+1) o r.2.2.2 hf
       exact⟨o',by simp[Instr.findAsking,heq,hl,h1],h2.cons⟩
theorem zpl {kt:TypeId} {d:TypeDesc} (hu:P.underlying kt=some d) {x y:Value} {la lb:List Lit} (hx:P.keyLits 40 kt x.cells.toList=some la) (hy:P.keyLits 40 kt y.cells.toList=some lb) (fx:x.formed P kt=true) (fy:y.formed P kt=true):
 Instr.sameNow d x y=none\/Instr.sameNow d x y=some (litsEq la lb):=by
 unfold Program.keyLits at hx hy
 simp only[hu] at hx hy
 cases x <;> cases y <;> first | exact .inl rfl | skip
 all_goals (cases d <;> first | exact .inl rfl | skip)
 all_goals (simp only[Value.cells,Array.toList] at hx hy)
 case bool.bool.bool a b=>grind[Instr.sameNow,litsEq,zpi]
 case int.int.int j a k b q=>grind[Instr.sameNow,litsEq,zpi]
 case string.string.string a b=>
  split at hx
  ·split at hy
   ·simp only[Qa] at hx hy
    subst hx hy
    right
    simp only[Instr.sameNow,litsEq,zpi,Bool.and_true,Qa]
    obtain⟨⟨x⟩⟩:=a
    obtain⟨⟨y⟩⟩:=b
    show ((⟨x⟩:Array UInt8) == ⟨y⟩)=(x == y)
    simp
   grind
  grind
theorem zfi {kt:TypeId} {d:TypeDesc} (hu:P.underlying kt=some d) {k k' : Value} {la:List Lit} (ha:zdL P kt k=some la) (rk:VR φ k k'):
 ∀(es es' : List MapEntry) (i:Nat) (o:Option (Nat×Value)),ER φ es es'->zfa P kt la es i=some o->
  Instr.findNow d k' es' i=none\/∃o',Instr.findNow d k' es' i=some o'/\zhN P φ kt la es i o o'
 | [],[],i,o,_,hf=>by
   simp only[zfa,Qa] at hf
   subst hf
   exact .inr ⟨none,rfl,trivial⟩
 | e :: es,e' :: es',i,o,r,hf=>by
   unfold zfa at hf
   cases hb:zdL P kt e.key with
   | none=>grind
   | some lb=>
     simp only[hb] at hf
     obtain⟨f1,_,k1,_⟩:=zeW ha rk
     obtain⟨f2,_,k2,_⟩:=zeW hb r.1
     rcases zpl hu k1 k2 f1 f2 with hs | hs
     ·grind[Instr.findNow]
     ·cases hl:litsEq la lb with
      | true=>
        simp only[hl,cond_true,Qa] at hf
        subst hf
        have:la=lb:=(by grind[zc9])
        subst this
        right
        exact⟨some (i,e'.val),by grind[Instr.findNow],rfl,r.2.1,Qc _,e,by simp,rfl,hb⟩
      | false=>
        simp only[hl,cond_false] at hf
        rcases zfi hu ha rk es es' (i+1) o r.2.2.2 hf with h1 | ⟨o',h1,h2⟩
        all_goals grind[Instr.findNow,zhN.cons]
theorem zbn {kt:TypeId} (hk:P.keyTypeAt 40 kt=true) {k k' : Value} {la:List Lit} (ha:zdL P kt k=some la) (rk:VR φ k k') (w:World) {es es' : List MapEntry} {o:Option (Nat×Value)} (r:ER φ es es') (hf:zfa P kt la es 0=some o):
 ∃o',(Instr.findKey kt k' es').run P w=.ok o' w/\zhN P φ kt la es 0 o o':=by
 obtain⟨d,hu⟩:∃d,P.underlying kt=some d:=by grind[Program.keyTypeAt]
 rcases zfi hu ha rk es es' 0 o r hf with h1 | ⟨o',h1,h2⟩
 ·obtain⟨o',h3,h4⟩:=zdI hk ha rk w es es' 0 o r hf
  exact⟨o',by simp[Instr.findKey,zac hu,h1,h3],h4⟩
 ·exact⟨o',by simp[Instr.findKey,zac hu,h1],h2⟩
theorem zcL {kt:TypeId} (hk:P.keyTypeAt 40 kt=true) {k k' : Value} {la:List Lit} (ha:zdL P kt k=some la) (rk:VR φ k k') (em:Bool) (w:World):(Instr.checkKey em 10000 kt k').run P w=.ok () w:=by
 obtain⟨f1,_,k1,_⟩:=zeW ha rk
 exact run_checkKey_deep (P:=P) em 9960 40 kt hk w 40 k' la f1 k1
theorem R.map (r:R P φ h w) {b:Nat} {es:List MapEntry} {c:Nat} {rc:Rec} (hb:h.get b=some (.map es c)) (hφ:φ b=some rc):∃es',w.heap[rc.blk]?= some (.map es' c)/\ER φ es es'.toList:=by
 obtain⟨o',ho,hr⟩:=r.obj b _ rc hb hφ
 cases o' <;> simp only[OR] at hr
 grind
theorem zbX {r:Nat} {o:Obj} (ho:w.heap[r]?= some o) (hc:∀c e f,o≠.cells c e f):(getObj r).run P w=.ok o w:=by grind[getObj,Sem.run]
theorem zbY {r:Nat} {o o2:Obj} (ho:w.heap[r]?= some o) (hc:∀c e f,o≠.cells c e f):(setObj r o2).run P w=.ok () { w with heap:=w.heap.setIfInBounds r o2 }:=by grind[setObj,Sem.run]
theorem zpm {t:TypeId} {z:Value} (hz:zeS P t=some z):t < P.types.size:=by grind[zeS,Q5]
theorem zgO {t:TypeId} {z:Value} (hz:zeS P t=some z):∃i,P.info? t=some i/\i.zero=some z/\∀xs,z≠.tuple xs:=by grind[zeS]
theorem zpn (G:zdM P) {t:TypeId} {z:Value} (hz:zeS P t=some z):VR φ z z:=by
 obtain⟨i,hi,hz0,hne⟩:=zgO hz
 have:=G.zero t i z (zpm hz) hi hz0
 unfold zoo at this
 split at this
 ·grind
 ·have hl:=zj6 (φ:=φ) this
  cases z with
  | agg xs=>exact LR.agg hl
  | tuple xs=>grind
  | _=>exact hl.1
theorem zlm (G:zdM P) (r:R P φ h w) {t:TypeId} {m m' k k' u:Value} {ok:Bool} (hs:zcr P h t m k ok=some u) (hm:VR φ m m') (hk:VR φ k k'):
 ∃u',(Instr.lookup t m' k' ok).run P w=.ok u' w/\VR φ u u':=by
 unfold zcr at hs
 split at hs
 rotate_left
 ·grind
 rename_i kt et hu
 split at hs
 rotate_left
 ·grind
 rename_i la z hkt ha hz
 simp only[zvE,Qd] at hkt
 obtain⟨i,hi,hz0,hne⟩:=zgO hz
 have hzr:=zdr (P:=P) hi hz0
 have hzv:=zpn (φ:=φ) G hz
 have two:∀(v v' : Value) (b:Bool),VR φ v v'->VR φ (cond ok (.tuple #[v,.bool b]) v) (if ok=true then .tuple #[v',.bool b] else v'):=by
  intro v v' b hv
  cases ok
  ·grind
  ·exact AR.tuple ⟨hv,.bool b,trivial⟩
 split at hs
 ·simp only[Qa] at hs
  subst hs
  cases hm
  refine⟨_,?_,two z z false hzv⟩
  have hc:=zcL (P:=P) hkt.1 ha hk true w
  have hf:(Instr.findKey kt k' []).run P w=.ok none w:=by
   obtain⟨o',h1,h2⟩:=zbn (P:=P) (φ:=φ) hkt.1 ha hk w (es:=[]) (es':=[]) (o:=none) trivial rfl
   cases o' with
   | none=>omega
   | some _=>exact h2.elim
  simp[Instr.lookup,zac hu,hc,hf,hzr]
 ·split at hs
  rotate_left
  ·grind
  rename_i es clock hb
  cases hm with
  | map hφ=>
    obtain⟨es',ho,he⟩:=r.map hb hφ
    have hg:=zbX (P:=P) ho (by simp)
    have hc:=zcL (P:=P) hkt.1 ha hk es'.isEmpty w
    split at hs
    ·rename_i j v hf
     simp only[Qa] at hs
     subst hs
     obtain⟨o',h1,h2⟩:=zbn (P:=P) hkt.1 ha hk w he hf
     cases o' with
     | none=>exact h2.elim
     | some p=>
       refine⟨_,?_,two v p.2 true h2.2.1⟩
       simp[Instr.lookup,zac hu,hg,hc,h1]
    ·rename_i hf
     simp only[Qa] at hs
     subst hs
     obtain⟨o',h1,h2⟩:=zbn (P:=P) hkt.1 ha hk w he hf
     cases o' with
     | some _=>exact h2.elim
     | none=>
       refine⟨_,?_,two z z false hzv⟩
       simp[Instr.lookup,zac hu,hg,hc,h1,hzr]
    grind
 grind
theorem ztr {kt:TypeId} (ht:P.tiled 40 kt=true) {a b a' b' : Value} {la:List Lit} (ha:zdL P kt a=some la) (hb:zdL P kt b=some la) (ra:VR φ a a') (rb:VR φ b b'):a'= b':=by
 obtain⟨f1,_,k1,_⟩:=zeW ha ra
 obtain⟨f2,_,k2,_⟩:=zeW hb rb
 have e1:=cells_of_lits 40 kt ht 40 _ la k1
 have e2:=cells_of_lits 40 kt ht 40 _ la k2
 have e:a'.cells=b'.cells:=by grind[Array.ext']
 unfold Value.formed at f1 f2
 grind[Value.cells]
theorem zhO (r:R P φ h w) {t:TypeId} {m m' k k' v v' : Value} {h' : AH} (hs:zba P h t m k v=some h') (hm:VR φ m m') (hk:VR φ k k') (hv:VR φ v v'):
 ∃w',(Instr.mapUpdate t m' k' v').run P w=.ok () w'/\Tn P φ h w φ h' w':=by
 unfold zba at hs
 split at hs
 rotate_left
 ·grind
 rename_i kt et b hu
 split at hs
 rotate_left
 ·grind
 rename_i la es clock hkt ha hb
 simp only[zvE,Qd] at hkt
 cases hm with
 | map hφ=>
   obtain⟨es',ho,he⟩:=r.map hb hφ
   have hg:=zbX (P:=P) ho (by simp)
   have hc:=zcL (P:=P) hkt.1 ha hk false w
   split at hs
   ·rename_i j u hf
    simp only[Qa] at hs
    subst hs
    obtain⟨o',h1,h2⟩:=zbn (P:=P) hkt.1 ha hk w he hf
    cases o' with
    | none=>exact h2.elim
    | some p=>
      obtain⟨j',u'⟩:=p
      obtain⟨rfl,hu',_,e,hej,rfl,hek⟩:=h2
      obtain⟨e',hej',hkk,_,_⟩:=he.at j e hej
      have hsame:e'.key=k':=by grind[ztr]
      have hej'' : es'[j]?= some e':=by grind
      have hkeep:∃n,(Instr.keyThatStays e'.key k').run P w=.ok k' { w with drawn:=w.drawn+n }:=by
       unfold Instr.keyThatStays
       split
       ·exact⟨0,rfl⟩
       ·simp only[Sem.run_bind,run_choose]
        split
        ·exact⟨0,by simp⟩
        ·refine⟨1,?_⟩
         simp_all
      obtain⟨n,hkeep⟩:=hkeep
      have hput:=Tn.put (P:=P) r hb hφ rfl (o2:=.map (es.modify j λe=>{ e with key:=k,val:=v }) clock) (O2:=.map (es'.modify j λe=>{ e with key:=k',val:=v' }) clock)
       ⟨rfl,by grind[ER.modify]⟩ n
      refine⟨_,?_,hput⟩
      have hset:=zbY (P:=P) (w:={ w with drawn:=w.drawn+n }) (o2:=.map (es'.modify j λe=>{ e with key:=k',val:=v' }) clock) ho (by simp)
      simp only[Instr.mapUpdate,Sem.run_bind,zac hu,Result.andThen_ok,hg,hc,h1,hej'',Ql,QV,hkeep,hset]
   ·rename_i hf
    simp only[Qa] at hs
    subst hs
    obtain⟨o',h1,h2⟩:=zbn (P:=P) hkt.1 ha hk w he hf
    cases o' with
    | some _=>exact h2.elim
    | none=>
      have hput:=Tn.put (P:=P) r hb hφ rfl (o2:=.map (es ++ [{ key:=k,val:=v,born:=clock }]) (clock+1)) (O2:=.map (es'.push { key:=k',val:=v',born:=clock }) (clock+1))
       ⟨rfl,by simpa using he.append (us:=[{ key:=k,val:=v,born:=clock }]) (vs:=[{ key:=k',val:=v',born:=clock }]) ⟨hk,hv,rfl,trivial⟩⟩ 0
      refine⟨_,?_,hput⟩
      have hset:=zbY (P:=P) (w:=w) (o2:=.map (es'.push { key:=k',val:=v',born:=clock }) (clock+1)) ho (by simp)
      simp only[Instr.mapUpdate,Sem.run_bind,zac hu,Result.andThen_ok,hg,hc,h1,hset]
      rfl
   grind
theorem zln (r:R P φ h w) {t ty:TypeId} {m m' k k' u:Value} {h' : AH} {ats:Array TypeId} (hs:zeT P h t m k=some (u,h')) (hm:VR φ m m') (hk:VR φ k k') (hat:ats[0]?= some t):
 zfh P φ h w (Builtin.delete_ ats ty #[m',k']) u h':=by
 unfold zeT at hs
 split at hs
 rotate_left
 ·grind
 rename_i kt et b hu
 split at hs
 rotate_left
 ·grind
 rename_i la es clock hkt ha hb
 simp only[zvE,Qd] at hkt
 cases hm with
 | map hφ=>
   obtain⟨es',ho,he⟩:=r.map hb hφ
   have hg:=zbX (P:=P) ho (by simp)
   have hc:=zcL (P:=P) hkt.1 ha hk es'.isEmpty w
   split at hs
   ·rename_i j u hf
    obtain⟨rfl,rfl⟩:=hs
    obtain⟨o',h1,h2⟩:=zbn (P:=P) hkt.1 ha hk w he hf
    cases o' with
    | none=>exact h2.elim
    | some p=>
      obtain⟨j',u'⟩:=p
      obtain⟨rfl,hu',_,e,hej,rfl,hek⟩:=h2
      have hput:=Tn.put (P:=P) r hb hφ rfl (o2:=.map (es.eraseIdx j) clock) (O2:=.map (es'.eraseIdxIfInBounds j) clock) ⟨rfl,by simpa using he.eraseIdx j⟩ 0
      have hset:=zbY (P:=P) (w:=w) (o2:=.map (es'.eraseIdxIfInBounds j) clock) ho (by simp)
      refine⟨φ,.tuple #[],_,?_,.junk _,hput⟩
      simp[Builtin.delete_,hat,zac hu,hg,hc,h1,hset]
   ·rename_i hf
    obtain⟨rfl,rfl⟩:=hs
    obtain⟨o',h1,h2⟩:=zbn (P:=P) hkt.1 ha hk w he hf
    cases o' with
    | some _=>exact h2.elim
    | none=>
      have hput:=Tn.put (P:=P) r hb hφ rfl (o2:=.map es clock) (O2:=.map es' clock) ⟨rfl,he⟩ 0
      have hset:=zbY (P:=P) (w:=w) (o2:=.map es' clock) ho (by simp)
      refine⟨φ,.tuple #[],_,?_,.junk _,hput⟩
      simp[Builtin.delete_,hat,zac hu,hg,hc,h1,hset]
   grind
end
end Go.Am
