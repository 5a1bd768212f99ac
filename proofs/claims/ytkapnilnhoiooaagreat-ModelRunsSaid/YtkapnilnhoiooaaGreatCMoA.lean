/-
  HOW MANY VERSIONS, in this program: what is told of it is what it does, whatever order the map's entries come in.
-/
import Derived.Test.YtkapnilnhoiooaaGreatAmH
import Derived.Test.YtkapnilnhoiooaaGreatPFacts
import Derived.Test.YtkapnilnhoiooaaGreatVVers
import Derived.Test.YtkapnilnhoiooaaGreatCRuG
set_option linter.unusedVariables false
set_option linter.unusedSimpArgs false
set_option maxRecDepth 100000
namespace Go.Am
open Go.Proofs
theorem zvr {v:Int} (hw:(Lit.int .u64 v).wf=true):zdx Tryz.prog 26 (.int .u64 v)=some [.int .u64 v]:=by
 have hf:(Value.int .u64 v).formed Tryz.prog 26=true:=by unfold Value.formed; rw[Tryz.underlying26]
 unfold zdx
 rw[hf]
 exact (zcv Tryz.underlying26 (m:=40) (d:=39) rfl v).trans (if_pos hw)
theorem zv5 (v x:Int):zaN [.int .u64 v] [.int .u64 x]=(v == x):=by simp[zaN,zie]
theorem findU {v:Int}:∀{es:List MapEntry} {S:List Int},es.map (·.key)=S.map (fun x=>Value.int .u64 x)→(∀x∈S,(Lit.int .u64 x).wf=true)→∀i,
 (v∉S∧zez Tryz.prog 26 [.int .u64 v] es i=some none)∨∃j y,S[j]?= some v∧es[j]?= some y∧zez Tryz.prog 26 [.int .u64 v] es i=some (some (i+j,y.val))
 | [],[],_,_,i=>.inl ⟨List.not_mem_nil,rfl⟩
 | e :: es,x :: S,hk,hw,i=>by
   simp only[List.map_cons,List.cons.injEq] at hk
   unfold zez
   rw[hk.1,zvr (hw x (List.mem_cons_self ..))]
   simp only
   rw[zv5]
   by_cases hvx:v=x
   ·subst hvx
    rw[beq_self_eq_true,cond_true]
    exact .inr ⟨0,e,rfl,rfl,rfl⟩
   ·rw[beq_eq_false_iff_ne.2 hvx,cond_false]
    rcases findU hk.2 (fun y hy=>hw y (List.mem_cons_of_mem _ hy)) (i+1) with ⟨h1,h2⟩ | ⟨j,y,h1,h2,h3⟩
    ·exact .inl ⟨fun q=>(List.mem_cons.1 q).elim hvx h1,h2⟩
    ·exact .inr ⟨j+1,y,h1,h2,by rw[h3]; congr 3; omega⟩
 | [],_ :: _,hk,_,_=>by cases hk
 | _ :: _,[],hk,_,_=>by cases hk
def zsl (h:AH) (m:Nat) (S:List Int):Prop:=(∃es clock,h.get m=some (.map es clock)∧es.map (·.key)=S.map (fun x=>Value.int .u64 x))∧∀x∈S,(Lit.int .u64 x).wf=true
theorem ztq:zur Tryz.prog 26=true:=by kernel_rfl
theorem zsl.put {h:AH} {m:Nat} {S:List Int} (M:zsl h m S) {v:Int} (hw:(Lit.int .u64 v).wf=true) (x:Value):
 ∃h',zaF Tryz.prog h 105 (.map (some m)) (.int .u64 v) x=some h'∧zbR m h h'∧zsl h' m (cond (S.contains v) S (S ++ [v])):=by
 obtain⟨⟨es,clock,hg,hk⟩,hS⟩:=M
 unfold zaF
 rw[Tryz.underlying105]
 simp only
 rw[ztq,zvr hw,hg]
 simp only
 rcases findU (v:=v) hk hS 0 with ⟨h1,h2⟩ | ⟨j,y,h1,h2,h3⟩
 ·rw[h2]
  have hc:S.contains v=false:=by
   cases hq:S.contains v with
   | false=>rfl
   | true=>exact absurd (List.contains_iff_mem.1 hq) h1
  rw[hc,cond_false]
  exact⟨_,rfl,zak _ _ _,⟨_,_,zad _ _ _,by simp[hk]⟩,fun z hz=>(List.mem_append.1 hz).elim (hS z) fun q=>by rw[List.mem_singleton.1 q]; exact hw⟩
 ·rw[h3]
  have hc:S.contains v=true:=List.contains_iff_mem.2 (List.mem_of_getElem? h1)
  rw[hc,cond_true]
  refine⟨_,rfl,zak _ _ _,⟨_,_,zad _ _ _,?_⟩,hS⟩
  rw[←hk]
  have hy:y.key=.int .u64 v:=by
   have e1:(es.map (·.key))[j]?= some y.key:=by rw[List.getElem?_map,h2]; rfl
   rw[hk,List.getElem?_map,h1] at e1
   exact (Option.some.inj e1).symm
  apply List.ext_getElem?
  intro i
  simp only[List.getElem?_map,List.getElem?_modify,Nat.zero_add]
  by_cases hij:j=i
  ·subst hij
   rw[h2]
   simp[hy]
  ·cases es[i]? with
   | none=>rfl
   | some z=>
     show some (if j=i then _ else z).key=_
     rw[if_neg hij]
     rfl
theorem zki {α:Type} {b:Bool} {x:Option α} {y:α} (h:cond b x none=some y):b=true∧x=some y:=by
 cases b
 ·cases h
 ·exact⟨rfl,h⟩
theorem zjf:∀{n:Nat} {l:List Value} {vs:List Int},zeJ n l=some vs→vs.length=n∧l.length=n * 129∧(∀x∈vs,(Lit.int .u64 x).wf=true)∧∀i (hi:i < vs.length),l[i * 129+128]?= some (.int .u64 vs[i])
 | 0,[],vs,h=>by
   simp only[zeJ,Option.some.injEq] at h
   subst h
   exact⟨rfl,rfl,fun x hx=>(by cases hx),fun i hi=>absurd hi (Nat.not_lt_zero _)⟩
 | 0,_ :: _,vs,h=>by simp[zeJ] at h
 | n+1,l,vs,h=>by
   unfold zeJ at h
   split at h
   ·rename_i v r hd
    obtain⟨hw,h⟩:=zki h
    split at h
    ·rename_i us hu
     simp only[Option.some.injEq] at h
     subst h
     obtain⟨h1,h2,h3,h4⟩:=zjf hu
     have hl:l.length=128+(r.length+1):=by
      have:=congrArg List.length hd
      rw[List.length_drop,List.length_cons] at this
      omega
     refine⟨by simp[h1],by rw[hl,h2]; omega,fun x hx=>(List.mem_cons.1 hx).elim (fun q=>by rw[q]; exact hw) (h3 x),fun i hi=>?_⟩
     have hat:∀k,l[128+k]?= (Value.int .u64 v :: r)[k]?:=fun k=>by rw[←hd,List.getElem?_drop]
     cases i with
     | zero=>
       rw[show 0 * 129+128=128+0 by omega,hat]
       rfl
     | succ i=>
       rw[show (i+1) * 129+128=128+((i * 129+128)+1) by omega,hat,List.getElem?_cons_succ]
       exact h4 i (by simpa using hi)
    ·cases h
   ·cases h
theorem ztr (S:List Int) (v x:Int):x∈zkb S v↔x∈S∨(x=v∧v≠0):=by
 unfold zkb
 by_cases hz:v=0
 ·subst hz
  simp
 ·cases hc:S.contains v with
  | true=>
    simp only[Bool.or_true,cond_true]
    exact⟨.inl,fun q=>q.elim id fun ⟨e,_⟩=>by rw[e]; exact List.contains_iff_mem.1 hc⟩
  | false=>
    rw[beq_eq_false_iff_ne.2 hz]
    simp only[Bool.or_false,cond_false,List.mem_append,List.mem_singleton]
    exact⟨fun q=>q.imp id fun e=>⟨e,hz⟩,fun q=>q.imp id fun e=>e.1⟩
theorem zpV {S:List Int} (v:Int) (h:S.Nodup):(zkb S v).Nodup:=by
 unfold zkb
 cases hc:S.contains v with
 | true=>simpa using h
 | false=>
   by_cases hz:v=0
   ·simpa[hz] using h
   ·rw[beq_eq_false_iff_ne.2 hz]
    simp only[Bool.or_false,cond_false]
    refine List.nodup_append.2 ⟨h,by simp,fun a ha b hb e=>?_⟩
    rw[List.mem_singleton] at hb
    rw[e,hb] at ha
    rw[List.contains_iff_mem.2 ha] at hc
    cases hc
theorem zjg (x:Int):∀(vs S:List Int),x∈vs.foldl zkb S↔x∈S∨(x∈vs∧x≠0)
 | [],S=>by simp
 | v :: vs,S=>by
   rw[List.foldl_cons,zjg x vs,ztr]
   simp only[List.mem_cons]
   constructor
   ·rintro ((h | ⟨rfl,h⟩) | ⟨h1,h2⟩)
    ·exact .inl h
    ·exact .inr ⟨.inl rfl,h⟩
    ·exact .inr ⟨.inr h1,h2⟩
   ·rintro (h | ⟨rfl | h1,h2⟩)
    ·exact .inl (.inl h)
    ·exact .inl (.inr ⟨rfl,h2⟩)
    ·exact .inr ⟨h1,h2⟩
theorem zgp:∀(vs:List Int) {S:List Int},S.Nodup→(vs.foldl zkb S).Nodup
 | [],_,h=>h
 | v :: vs,_,h=>by
   rw[List.foldl_cons]
   exact zgp vs (zpV v h)
def zlm (n:Nat) (y:MapEntry) (vs:List Int):Prop:=(∃q,y.key=.int .u64 q)∧∃l:List Value,y.val=.agg l.toArray∧zeJ n l=some vs
theorem zjh {n:Nat}:∀{es:List MapEntry} {S s:List Int},zmr n es S=some s→S.Nodup→s.Nodup∧(∀y∈es,∃vs,zlm n y vs)∧∀x,x∈s↔x∈S∨(x≠0∧∃y∈es,∃vs,zlm n y vs∧x∈vs)
 | [],S,s,h,hn=>by
   simp only[zmr,Option.some.injEq] at h
   subst h
   exact⟨hn,fun y hy=>(by cases hy),fun x=>by simp⟩
 | e :: es,S,s,h,hn=>by
   unfold zmr at h
   split at h
   ·rename_i q0 cs hk hv
    split at h
    ·rename_i vs hvs
     have hx:zlm n e vs:=⟨⟨q0,hk⟩,cs.toList,by simpa using hv,hvs⟩
     obtain⟨h1,h2,h3⟩:=zjh h (zgp vs hn)
     refine⟨h1,fun y hy=>(List.mem_cons.1 hy).elim (fun q=>by rw[q]; exact⟨vs,hx⟩) (h2 y),fun x=>?_⟩
     rw[h3,zjg]
     constructor
     ·rintro ((q | ⟨q1,q2⟩) | ⟨q1,y,q2,q3⟩)
      ·exact .inl q
      ·exact .inr ⟨q2,e,List.mem_cons_self ..,vs,hx,q1⟩
      ·exact .inr ⟨q1,y,List.mem_cons_of_mem _ q2,q3⟩
     ·rintro (q | ⟨q1,y,q2,us,⟨q6,l,q3,q4⟩,q5⟩)
      ·exact .inl (.inl q)
      ·rcases List.mem_cons.1 q2 with rfl | q2
       ·rw[hv] at q3
        have:cs=l.toArray:=by simpa using q3
        subst this
        rw[hvs] at q4
        cases q4
        exact .inl (.inr ⟨q5,q1⟩)
       ·exact .inr ⟨q1,y,q2,us,⟨q6,l,q3,q4⟩,q5⟩
    ·cases h
   ·cases h
theorem zji:∀{l1 l2:List Int},l1.Nodup→(∀x∈l1,x∈l2)→l1.length≤l2.length
 | [],l2,_,_=>Nat.zero_le _
 | a :: t,l2,hn,hs=>by
   rw[List.nodup_cons] at hn
   have ha:=hs a (List.mem_cons_self ..)
   have:=zji hn.2 (l2:=l2.erase a) fun x hx=>(List.mem_erase_of_ne (fun e=>hn.1 (by rw[←e]; exact hx))).2 (hs x (List.mem_cons_of_mem _ hx))
   rw[List.length_erase_of_mem ha] at this
   have hp:=List.length_pos_of_mem ha
   simp only[List.length_cons]
   omega
theorem zfp:∀{es:List MapEntry} {c:Nat},zeK es c=true→(∀x∈es,x.born < c)∧(es.map (·.born)).Nodup
 | [],c,_=>⟨fun x hx=>(by cases hx),List.nodup_nil⟩
 | e :: es,c,h=>by
   simp only[zeK,Bool.and_eq_true,Nat.blt_eq,Bool.not_eq_true'] at h
   obtain⟨⟨h1,h2⟩,h3⟩:=h
   obtain⟨k1,k2⟩:=zfp h3
   refine⟨fun x hx=>(List.mem_cons.1 hx).elim (fun q=>by rw[q]; exact h1) (k1 x),?_⟩
   rw[List.map_cons,List.nodup_cons]
   refine⟨fun q=>?_,k2⟩
   obtain⟨y,hy,e1⟩:=List.mem_map.1 q
   have:=List.any_eq_false.1 h2 y hy
   rw[e1,Nat.beq_refl] at this
   exact this rfl
theorem zrB {K:Xs} {c:Code} (hc:zoH Tryz.prog 12 5=some c) {sm b5:Nat} {e:Env} (ha:agr ((Tr.nil.set 3 (.map (some sm))).set 5 (.pointer (some ⟨b5,0,none⟩))) e) {h:AH} {S:List Int} (M:zsl h sm S) {l:List Value} {ro:Bool} (hl:h.get b5=some (.cells l 108 ro)) {vs:List Int} (hv:zeJ 64 l=some vs) (hne:b5≠sm):
 Wc Tryz.prog K none c e h fun x _ g=>x=.normal∧zbR sm h g∧zsl g sm (vs.foldl zkb S):=by
 obtain⟨v1,v2,v3,v4⟩:=zjf hv
 refine zdq hc _ _ ha h _ ⟨fun i k g=>∃u:Nat,i=u∧u≤64∧64 - u=k∧zbR sm h g∧zsl g sm ((vs.take u).foldl zkb S),⟨64,0,rfl,by omega,rfl,⟨rfl,fun _ _=>rfl⟩,M⟩,?_⟩
 rintro k g i ⟨u,rfl,hu,rfl,nr,N⟩
 refine⟨fun z=>?_,fun z=>?_⟩
 ·have hul:u < vs.length:=by omega
  have hat:ld1 g b5 ((0+Int.toNat (u:Int) * 129)+128)=some (.int .u64 vs[u]):=by
   unfold ld1
   rw[nr.2 b5 hne,hl,Int.toNat_natCast,Nat.zero_add]
   exact v4 u hul
  have htk:(vs.take (u+1)).foldl zkb S=zkb ((vs.take u).foldl zkb S) vs[u]:=by
   rw[List.take_succ_eq_append_getElem hul,List.foldl_append]
   rfl
  refine⟨by omega,z,vs[u],hat,fun y i2 e2=>?_,fun y=>⟨by omega,z,vs[u],hat,?_⟩⟩
  ·have e2:=zcj e2 (by omega) (by omega)
   refine⟨64 - (u+1),by omega,u+1,by omega,by omega,rfl,nr,?_⟩
   rw[htk]
   unfold zkb
   rw[beq_iff_eq.2 y]
   exact N
  ·obtain⟨g2,k2,nr2,N2⟩:=N.put (v3 _ (List.getElem_mem hul)) (.agg #[])
   refine⟨g2,k2,fun i2 e2=>?_⟩
   have e2:=zcj e2 (by omega) (by omega)
   refine⟨64 - (u+1),by omega,u+1,by omega,by omega,rfl,⟨nr2.1.trans nr.1,fun c hc=>(nr2.2 c hc).trans (nr.2 c hc)⟩,?_⟩
   rw[htk]
   unfold zkb
   rw[beq_eq_false_iff_ne.2 y,Bool.false_or]
   exact N2
 ·obtain rfl:u=64:=by omega
  rw[List.take_of_length_le (by omega)] at N
  exact⟨rfl,nr,N⟩
theorem zts (a:Env):agr a a:=fun _ _ h=>h
theorem zrC:∀{l:List MapEntry},(l.map (·.born)).Nodup→∀{p q:MapEntry},p∈l→q∈l→p.born=q.born→p=q
 | [],_,p,q,hp,_,_=>by cases hp
 | c :: l,hnd,p,q,hp,hq,hpq=>by
   simp only[List.map_cons,List.nodup_cons] at hnd
   rcases List.mem_cons.1 hp with hp2 | hp2
   ·rcases List.mem_cons.1 hq with hq2 | hq2
    ·rw[hp2,hq2]
    ·exact absurd (List.mem_map.2 ⟨q,hq2,by rw[←hpq,hp2]⟩) hnd.1
   ·rcases List.mem_cons.1 hq with hq2 | hq2
    ·exact absurd (List.mem_map.2 ⟨p,hp2,by rw[hpq,hq2]⟩) hnd.1
    ·exact zrC hnd.2 hp2 hq2 hpq
theorem zrD {n:Nat} {y:MapEntry} {a b:List Int} (h:zlm n y a) (k:zlm n y b):a=b:=by
 obtain⟨-,l,h1,h2⟩:=h
 obtain⟨-,m,k1,k2⟩:=k
 rw[h1] at k1
 have:l=m:=by simpa using k1
 subst this
 rw[h2] at k2
 exact Option.some.inj k2
theorem zrE:zas Tryz.prog 108=some ((List.replicate 64 ((List.replicate 128 (.int .u8 0)) ++ [.int .u64 0])).flatten):=by kernel_rfl
theorem zjj:((List.replicate 64 ((List.replicate 128 (Value.int .u8 0)) ++ [.int .u64 0])).flatten).length=8256:=by decide +kernel
abbrev zxv (sm β:Nat) (h2:AH) (l:List Value) (a1:Env) (g:AH):Prop:=agr ((Tr.nil.set 3 (.map (some sm))).set 5 (.pointer (some ⟨h2.next,0,none⟩))) a1∧a1.get 12=some (ptr β 0)∧g.next=h2.next+1∧g.get h2.next=some (.cells l 108 false)∧∀c,c < h2.next→g.get c=h2.get c
noncomputable def zrF:Code:=match Tryz.f12.body with | some (.seq _ (.seq _ (.seq (.seq _ (.block _ (.loop c))) _)))=>c | _=>.skip
theorem zrG {es:List MapEntry} (hn:(es.map (·.born)).Nodup) {seen:Array Nat} {y:MapEntry} (hy:y∈es) (hs:seen.contains y.born=false):(es.filter fun x=>!(seen.push y.born).contains x.born).length+1=(es.filter fun x=>!seen.contains x.born).length:=by
 induction es with
 | nil=>cases hy
 | cons e es ih=>
   rw[List.map_cons,List.nodup_cons] at hn
   have hp:∀x:MapEntry,(seen.push y.born).contains x.born=(seen.contains x.born || x.born == y.born):=fun x=>by
    rw[Array.contains_push,Bool.or_comm]
   rcases List.mem_cons.1 hy with rfl | hy
   ·have hrest:(es.filter fun x=>!(seen.push y.born).contains x.born)=es.filter fun x=>!seen.contains x.born:=by
     refine List.filter_congr fun x hx=>?_
     rw[hp]
     have:(x.born == y.born)=false:=beq_eq_false_iff_ne.2 fun q=>hn.1 (List.mem_map.2 ⟨x,hx,q⟩)
     rw[this,Bool.or_false]
    rw[List.filter_cons_of_neg (by rw[hp]; simp),List.filter_cons_of_pos (by rw[hs]; rfl),hrest]
    rfl
   ·have hne:(e.born == y.born)=false:=beq_eq_false_iff_ne.2 fun q=>hn.1 (List.mem_map.2 ⟨y,hy,q.symm⟩)
    have:=ih hn.2 hy
    cases hse:seen.contains e.born with
    | true=>
      rw[List.filter_cons_of_neg (by rw[hp,hse]; simp),List.filter_cons_of_neg (by rw[hse]; simp)]
      exact this
    | false=>
      rw[List.filter_cons_of_pos (by rw[hp,hse,hne]; rfl),List.filter_cons_of_pos (by rw[hse]; rfl)]
      simp only[List.length_cons]
      omega
theorem ztt (G:zd7 Tryz.prog) {B N:Nat} {h0:AH} {sm β m clock:Nat} {es:List MapEntry} (hes:h0.get m=some (.map es clock)) (hlt:∀b o,h0.get b=some o→b < h0.next) (hb:zeK es clock=true) (hv:∀y∈es,∃vs,zlm 64 y vs) (hsm:h0.next≤sm) {Q:AX→Env→AH→Fi→World→Prop}
 (hQ:∀e h φ w S,agr (Tr.nil.set 3 (.map (some sm))) e→zsl h sm S→S.Nodup→(∀x,x∈S↔x≠0∧∃y∈es,∃vs,zlm 64 y vs∧x∈vs)→(∀b o,h0.get b=some o→h.get b=some o)→h.next≤N→Q (.exit 0) e h φ w):
 ∀(k:Nat) (seen:Array Nat) (S:List Int) (e:Env) (h:AH) (φ:Fi) (w:World) (c0:Nat),(es.filter fun x=>!seen.contains x.born).length=k→clock≤c0→h.next+k=N→sm < h.next→β < h.next→β≠sm→ItW B φ w β m clock seen c0→agr ((Tr.nil.set 3 (.map (some sm))).set 12 (ptr β 0)) e→zsl h sm S→S.Nodup→
  (∀x,x∈S↔x≠0∧∃y∈es,seen.contains y.born=true∧∃vs,zlm 64 y vs∧x∈vs)→(∀b o,h0.get b=some o→h.get b=some o)→Mc Tryz.prog B N (.loop zrF) e h φ w Q:=by
 obtain⟨hb1,hb2⟩:=zfp hb
 intro k
 induction k with
 | zero=>
   intro seen S e h φ w c0 hk hc hN hs1 hs2 hne I ha M hS hm hold
   have hem:=hold _ _ hes
   have h12:e.get 12=some (ptr β 0):=ha 12 _ rfl
   have h3:e.get 3=some (.map (some sm)):=ha 3 _ rfl
   have hall:∀y∈es,seen.contains y.born=true:=fun y hy=>by
    cases hq:seen.contains y.born with
    | true=>rfl
    | false=>
      have:y∈es.filter fun x=>!seen.contains x.born:=List.mem_filter.2 ⟨hy,by rw[hq]; rfl⟩
      have:=List.length_pos_of_mem this
      omega
   refine Mc.loop1 (Mc.seq ((Mc.next (K:=zgF) G zbs rfl rfl rfl rfl rfl rfl rfl (by show (e.get 12).getD undef=_; rw[h12]; rfl) hem hb1 hc I (by omega)).mono ?_))
   rintro x e1 h1 φ1 w1 ⟨rfl,rfl,rfl,⟨-,rfl⟩ | ⟨y,hy,hys, -⟩⟩
   rotate_left
   ·rw[hall y hy] at hys; cases hys
   intro t1
   have g3:((e.set 13 (.tuple #[.bool false])).set 14 (.bool false)).get 3=some (.map (some sm)):=by rw[Tr.get_set,if_neg (by decide),Tr.get_set,if_neg (by decide)]; exact h3
   refine Mc.seq ((Mc.cond (t:=false) (by show (((e.set 13 _).set 14 _).get 14).getD undef=_; rw[Tr.get_set,if_pos rfl]; rfl) (Mc.of (K:=zgF) (Q:=fun x e' g=>x=.exit 0∧agr (Tr.nil.set 3 (.map (some sm))) e'∧g=h1) G zbs (zny.2 ⟨rfl,zaV (fun t v z=>by rw[Tr.get_nil] at z; cases z) g3,rfl⟩) (fun x e' g q=>by rw[q.2.2]; omega))).mono ?_)
   rintro x e2 h2 φ2 w2 ⟨⟨rfl,ha2,rfl⟩,t2⟩
   refine hQ _ _ _ _ S ha2 M hS (fun x=>?_) hold (by omega)
   rw[hm]
   exact⟨fun ⟨q1,y,q2,_,q3⟩=>⟨q1,y,q2,q3⟩,fun ⟨q1,y,q2,q3⟩=>⟨q1,y,q2,hall y q2,q3⟩⟩
 | succ k ih=>
   intro seen S e h φ w c0 hk hc hN hs1 hs2 hne I ha M hS hm hold
   have hem:=hold _ _ hes
   have h12:e.get 12=some (ptr β 0):=ha 12 _ rfl
   have h3:e.get 3=some (.map (some sm)):=ha 3 _ rfl
   refine Mc.loop1 (Mc.seq ((Mc.next (K:=zgF) G zbs rfl rfl rfl rfl rfl rfl rfl (by show (e.get 12).getD undef=_; rw[h12]; rfl) hem hb1 hc I (by omega)).mono ?_))
   rintro x e1 h1 φ1 w1 ⟨rfl,rfl,rfl,⟨hall, -⟩ | ⟨y,hy,hys,rfl,I1⟩⟩
   ·exfalso
    have:(es.filter fun x=>!seen.contains x.born)=[]:=List.filter_eq_nil_iff.2 fun x hx=>by rw[hall x hx]; decide
    rw[this] at hk
    cases hk
   intro t1
   have g3:((e.set 13 (.tuple #[.bool true,y.key,y.val])).set 14 (.bool true)).get 3=some (.map (some sm)):=by rw[Tr.get_set,if_neg (by decide),Tr.get_set,if_neg (by decide)]; exact h3
   have g12:((e.set 13 (.tuple #[.bool true,y.key,y.val])).set 14 (.bool true)).get 12=some (ptr β 0):=by rw[Tr.get_set,if_neg (by decide),Tr.get_set,if_neg (by decide)]; exact h12
   refine Mc.seq ((Mc.cond (t:=true) (by show (((e.set 13 _).set 14 _).get 14).getD undef=_; rw[Tr.get_set,if_pos rfl]; rfl) (Mc.of (K:=zgF) (Q:=fun x e' g=>x=.normal∧agr ((Tr.nil.set 3 (.map (some sm))).set 12 (ptr β 0)) e'∧g=h1) G zbs (znx.2 ⟨rfl,zaV (zaV (fun t v z=>by rw[Tr.get_nil] at z; cases z) g3) g12,rfl⟩) (fun x e' g q=>by rw[q.2.2]; omega))).mono ?_)
   rintro x e2 h2 φ2 w2 ⟨⟨rfl,ha2,rfl⟩,t2⟩ t2'
   have I2:=I1.tn t1.rel t2
   obtain⟨vs,⟨qk,hyk⟩,l,hyv,hvs⟩:=hv y hy
   obtain⟨v1,v2, -, -⟩:=zjf hvs
   have hbl:(h2.alloc (.cells (List.replicate 8256 (.int .u8 0)) 0 false)).next=h2.next+1:=rfl
   refine Mc.block (Mc.seq ((Mc.entryV (K:=zgF) G zbs (a:=(Tr.nil.set 3 (.map (some sm))).set 12 (ptr β 0)) rfl rfl rfl rfl ha2 rfl hem hb2 hy I2 (k:=zxv sm β h2 l) ?_ (fun a1 g q=>by rw[q.2.2.1]; omega)).mono ?_))
   ·rw[hyv,hyk]
    suffices hq:∃z:List Value,zas Tryz.prog 108=some z∧∀h3,h3=h2.alloc (.cells z 108 false)→l.length=8256∧∃h4,stN h3 h2.next 0 l=some h4∧zxv sm β h2 l (((((Tr.nil.set 3 (.map (some sm))).set 12 (ptr β 0)).set 15 (.tuple #[.int .u64 qk,.agg l.toArray])).set 16 (.agg l.toArray)).set 5 (ptr h2.next 0)) h4 from Eq.mpr (by kernel_rfl) hq
    refine⟨_,zrE,fun h3 e3=>⟨by omega,?_⟩⟩
    obtain⟨g4,k4,n4,o4,u4⟩:=zap e3 (vs:=l) (by rw[zjj]; omega)
    exact⟨g4,k4,zaV (zaV (fun t v z=>by rw[Tr.get_nil] at z; cases z) rfl) rfl,rfl,n4,(u4 [] (fun c hc=>by cases hc)).1,fun c hc=>o4.2 c hc⟩
   ·rintro x e3 h3 φ3 w3 ⟨rfl,⟨a1,ha1,q1,q2,q3,q4,q5⟩,I3⟩ t3
    have ha3:agr ((Tr.nil.set 3 (.map (some sm))).set 5 (.pointer (some ⟨h2.next,0,none⟩))) e3:=fun t v z=>ha1 _ _ (q1 _ _ z)
    have M3:zsl h3 sm S:=by
     obtain⟨⟨es2,cl2,m1,m2⟩,m3⟩:=M
     exact⟨⟨es2,cl2,(q5 sm hs1).trans m1,m2⟩,m3⟩
    refine (Mc.of (K:=zgF) G zbs (zqL (zrB (by kernel_rfl) ha3 M3 q4 hvs (by omega))) (fun x e' g q=>by have:=q.1.2.1.1; omega)).mono ?_
    rintro x e4 h4 φ4 w4 ⟨⟨⟨rfl,nr,M4⟩,hmods⟩,t4⟩ t5
    have r3:e4.get 3=some (.map (some sm)):=(hmods 3 (of_decide_eq_true (by kernel_rfl))).trans (ha3 3 _ rfl)
    have r12:e4.get 12=some (ptr β 0):=(hmods 12 (of_decide_eq_true (by kernel_rfl))).trans (ha1 12 _ q2)
    have hleft:=zrG hb2 hy hys
    refine ih (seen.push y.born) (vs.foldl zkb S) e4 h4 φ4 w4 clock (by omega) (Nat.le_refl _) (by have:=nr.1; omega) (by have:=nr.1; omega) (by have:=nr.1; omega) hne (I3.tn t3.rel t4) (zaV (zaV (fun t v z=>by rw[Tr.get_nil] at z; cases z) r3) r12) M4 (zgp vs hS) (fun z=>?_) fun b o hbo=>?_
    ·rw[zjg,hm]
     constructor
     ·rintro (⟨p1,y',p2,p3,p4⟩ | ⟨p1,p2⟩)
      ·exact⟨p1,y',p2,by rw[Array.contains_push,p3]; simp,p4⟩
      ·exact⟨p2,y,hy,by rw[Array.contains_push]; simp,vs,⟨⟨qk,hyk⟩,l,hyv,hvs⟩,p1⟩
     ·rintro⟨p1,y',p2,p3,us,p4,p5⟩
      cases hq:seen.contains y'.born with
      | true=>exact .inl ⟨p1,y',p2,hq,us,p4,p5⟩
      | false=>
        rw[Array.contains_push,hq,Bool.false_or] at p3
        have:=zrC hb2 p2 hy (beq_iff_eq.1 p3)
        subst this
        rw[zrD p4 ⟨⟨qk,hyk⟩,l,hyv,hvs⟩] at p5
        exact .inr ⟨p5,p1⟩
    ·have hlb:=hlt b o hbo
     have:b < h2.next:=by omega
     rw[nr.2 b (by omega),q5 b this]
     exact hold b o hbo
theorem zrH {es:List MapEntry} {s S:List Int} (h:zmr 64 es []=some s) (hS:S.Nodup) (hm:∀x,x∈S↔x≠0∧∃y∈es,∃vs,zlm 64 y vs∧x∈vs):S.length=s.length:=by
 obtain⟨h1, -,h3⟩:=zjh h List.nodup_nil
 have he:∀x,x∈S↔x∈s:=fun x=>by rw[hm,h3]; simp
 exact Nat.le_antisymm (zji hS fun x hx=>(he x).1 hx) (zji h1 fun x hx=>(he x).2 hx)
abbrev vA0 (b off:Nat):Env:=Tr.ofList [.pointer (some ⟨b,off,none⟩)]
abbrev vA2 (b off:Nat):Env:=(vA0 b off).set 2 (.int .i64 0)
abbrev vA3 (b off s:Nat):Env:=((vA2 b off).set 7 (.map (some s))).set 3 (.map (some s))
abbrev vA4 (b off s:Nat) (q:Option Nat):Env:=((((vA3 b off s).set 8 (.pointer (some ⟨b,off,none⟩))).set 9 (ptr b off)).set 10 (ptr b (off+2))).set 11 (.map q)
theorem zw5 (G:zd7 Tryz.prog):zt7 Tryz.prog 12 (zc1 64):=by
 intro args h v h' hlt hg
 unfold zc1 at hg
 split at hg
 rotate_left
 ·cases hg
 rename_i b off
 split at hg
 rotate_left
 ·cases hg
 rename_i cs el ro hb
 split at hg
 rotate_left
 ·cases hg
 rename_i m hcm
 split at hg
 rotate_left
 ·cases hg
 rename_i es clock hes
 obtain⟨hborn,hg⟩:=zki hg
 split at hg
 rotate_left
 ·cases hg
 rename_i s hs
 simp only[Option.some.injEq,Prod.mk.injEq] at hg
 obtain⟨rfl,rfl⟩:=hg
 refine⟨Tryz.f12,_,Tryz.func12,rfl,fun B φ w=>?_⟩
 obtain⟨hs1,hs2,hs3⟩:=zjh hs List.nodup_nil
 have hld:ld1 h b (off+2)=some (.map (some m)):=by
  unfold ld1
  rw[hb]
  exact hcm
 have hmlt:=hlt m _ hes
 refine Mc.seq ((Mc.vc (K:=zgF) (hs:=[]) G zbs (a:=vA0 b off) (Q:=fun x a' h'=>x=.normal∧a'= vA2 b off∧h'= h) (zts _) (Eq.mpr (by kernel_rfl) (⟨rfl,rfl,rfl⟩:AX.normal=AX.normal∧vA2 b off=vA2 b off∧h=h)) (fun x a' g q=>by rw[q.2.2]; show h.next≤h.next+2+es.length; omega)).mono ?_)
 rintro x e1 h1 φ1 w1 ⟨⟨a1,ha1,rfl,rfl,rfl⟩,t1⟩ -
 refine Mc.seq ((Mc.vc (K:=zgF) (hs:=[]) G zbs (Q:=fun x a' h'=>x=.normal∧a'= vA3 b off h1.next∧h'= h1.alloc (.map [] 0)) ha1
  (Eq.mpr (by kernel_rfl) (fun h2 e2=>⟨rfl,rfl,e2⟩:∀h2:AH,h2=h1.alloc (.map [] 0)→AX.normal=AX.normal∧vA3 b off h1.next=vA3 b off h1.next∧h2=h1.alloc (.map [] 0))) (fun x a' g q=>by rw[q.2.2]; show h1.next+1≤h1.next+2+es.length; omega)).mono ?_)
 rintro x e2 h2 φ2 w2 ⟨⟨a2,ha2,rfl,rfl,hh2⟩,t2⟩ -
 have o2:=zab hh2
 have n2:=zaa hh2
 have hm2:h2.get m=some (.map es clock):=(o2.2 m hmlt).trans hes
 have hb2:ld1 h2 b (off+2)=some (.map (some m)):=by
  unfold ld1
  rw[o2.2 b (hlt b _ hb),hb]
  exact hcm
 refine Mc.seq (Mc.seq ((Mc.rangeV (K:=zgF) G zbs (pre:=[_,_,_,_]) (m:=m) rfl rfl rfl rfl Tryz.underlying56 ha2 (hh:=h2) (aa:=vA4 b off h1.next (some m))
  (Eq.mpr (by kernel_rfl) (⟨some m,hb2,rfl,rfl⟩:∃q:Option Nat,ld1 h2 b (off+2)=some (.map q)∧vA4 b off h1.next q=vA4 b off h1.next (some m)∧h2=h2))
  (es:=es) (clock:=clock) rfl hm2 (by show h2.next+1≤h1.next+2+es.length; omega)).mono ?_))
 rintro x e3 h3 φ3 w3 ⟨rfl,ha3,rfl,I3⟩ t3
 have g3:e3.get 3=some (.map (some h1.next)):=ha3 3 _ rfl
 have g12:e3.get 12=some (ptr h2.next 0):=ha3 12 _ rfl
 have hget:∀c,({ h2 with next:=h2.next+1 }:AH).get c=h2.get c:=fun c=>rfl
 have M0:zsl { h2 with next:=h2.next+1 } h1.next []:=⟨⟨[],0,by rw[hget]; exact zaf hh2,rfl⟩,fun x hx=>(by cases hx)⟩
 have hfil:(es.filter fun x=>!(#[]:Array Nat).contains x.born).length=es.length:=by rw[List.filter_eq_self.2 (fun x _=>by simp)]
 refine Mc.block (ztt (h0:=h1) (sm:=h1.next) (β:=h2.next) G hes hlt hborn hs2 (Nat.le_refl _) (fun e h φ w S ha M hS hm hold hle=>?_) es.length #[] [] e3 _ φ3 w3 clock hfil (Nat.le_refl _) (by show h2.next+1+es.length=h1.next+2+es.length; omega) (by show h1.next < h2.next+1; omega) (by show h2.next < h2.next+1; omega) (by omega) I3 (zaV (zaV (fun t v z=>by rw[Tr.get_nil] at z; cases z) g3) g12) M0 List.nodup_nil (fun x=>?_) (fun b o hbo=>?_))
 ·have hlen:=zrH hs hS hm
  obtain⟨⟨es2,cl2,m1,m2⟩,m3⟩:=M
  have hes2:es2.length=S.length:=by have:=congrArg List.length m2; simpa using this
  show TnB _ _ _ _ _ _ _ _→Mc _ _ _ _ _ _ _ _ _
  intro t4
  have hal:zsp Tryz.prog h 105 (.map (some h1.next))=some (.int .i64 (s.length:Int)):=by
   unfold zsp
   rw[Tryz.underlying105]
   simp only
   rw[m1]
   simp only
   rw[hes2,hlen]
  refine ((Mc.vc (K:=zgF) (hs:=[]) G zbs (a:=Tr.nil.set 3 (.map (some h1.next))) (Q:=fun x a' h'=>x=.ret∧a'.get 2=some (.int .i64 (s.length:Int))∧h'= h) ha
   (Eq.mpr (by kernel_rfl) (⟨_,hal,rfl,rfl,rfl⟩:∃n:Int,zsp Tryz.prog h 105 (.map (some h1.next))=some (.int .i64 n)∧AX.ret=AX.ret∧some (Value.int .i64 n)=some (Value.int .i64 (s.length:Int))∧h=h)) (fun x a' g q=>by rw[q.2.2]; exact hle)).mono ?_)
  rintro x e5 h5 φ5 w5 ⟨⟨a5,ha5,rfl,q5,rfl⟩,t5⟩
  refine⟨.inr rfl,?_,fun b o hbo=>hold b o hbo⟩
  have g2:=ha5 2 _ q5
  have hres:Tryz.f12.results.toList=[.tmp 2]:=rfl
  rw[hres]
  simp[zcJ,zcT,ev,g2]
 ·constructor
  ·intro q; cases q
  ·rintro⟨-,y, -,q, -⟩
   simp at q
 ·rw[hget,o2.2 b (hlt b o hbo)]
  exact hbo
def modC (nx:Int) (p:Option Addr) (n c:Nat) (bm:Option Nat) (st md:Int):List Value:=[.int .u64 nx,.slice p n c,.map bm,.int .u64 st,.int .u64 md]
def ze7 (o:AObj):Prop:=∀cs t ro,o=.cells cs t ro→Tryz.prog.cellsOf t≠3∧(∀off q,off+3≤cs.length→(cs.drop off).take 3≠qC q)∧∀off r,off+11≤cs.length→(cs.drop off).take 11≠setC r
theorem zpW (es:List MapEntry) (c:Nat):ze7 (.map es c):=fun _ _ _ e=>by cases e
theorem zpX (nx:Int) (p:Option Addr) (n c:Nat) (bm:Option Nat) (st md:Int) (ro:Bool):ze7 (.cells (modC nx p n c bm st md) 58 ro):=fun cs t ro' e=>by
 cases e
 refine⟨by simp,fun off q hl=>?_,fun off r hl=>?_⟩
 ·have hl' : off+3≤5:=hl
  have:off=0∨off=1∨off=2:=by omega
  unfold qC modC
  rcases this with rfl | rfl | rfl <;> simp
 ·have hl' : off+11≤5:=hl
  omega
theorem zhD {cs:List Value} {t:TypeId} {ro:Bool} (h:∀v∈cs,∃x:Int,v=.int .u8 x) (ht:Tryz.prog.cellsOf t≠3):ze7 (.cells cs t ro):=fun cs' t' ro' e=>by
 cases e
 have key:∀{n off:Nat} {v:Value} {l:List Value},(cs.drop off).take n=v :: l→∃x:Int,v=.int .u8 x:=fun {n off v l} e=>h v (List.mem_of_mem_drop (List.mem_of_mem_take (by rw[e]; exact List.mem_cons_self ..)))
 refine⟨ht,fun off q hl e=>?_,fun off r hl e=>?_⟩
 ·obtain⟨x,hx⟩:=key e
  cases hx
 ·obtain⟨x,hx⟩:=key e
  cases hx
def zhN (g g' : AH):Prop:=g.next≤g'.next∧∀y,y < g.next→g'.get y=g.get y∨∃o,g.get y=some o∧ze7 o
theorem zaR.stayM {g g' : AH} {p:Option Addr} {n sz:Nat} {cs:List Value} (S:zaR g p n sz cs) (k:zhN g g') (hne:∀b off,p=some ⟨b,off,none⟩→0 < n→∀o,g.get b=some o→¬ze7 o):zaR g' p n sz cs:=by
 refine⟨S.1,?_⟩
 rcases S.2 with h0 | ⟨b,off,al,e,ro,hp,hb,hg,hl,hc⟩
 ·exact .inl h0
 ·by_cases hn:0 < n
  ·rcases k.2 b hb with h | ⟨o,h,ho⟩
   ·exact .inr ⟨b,off,al,e,ro,hp,Nat.lt_of_lt_of_le hb k.1,h.trans hg,hl,hc⟩
   ·exact absurd ho (hne b off hp hn o h)
  ·exact .inl (by omega)
theorem zrI {g:AH} {p:Option Addr} {n:Nat} {ds:List PtI} (S:zaR g p n 3 (ptI ds)) (hl:n=ds.length):∀b off,p=some ⟨b,off,none⟩→0 < n→∀o,g.get b=some o→¬ze7 o:=by
 rintro b off rfl hn o ho hO
 obtain⟨b2,off2,e,hld, -⟩:=S.getN hn
 cases e
 have hq:=znU ds 0 (by omega)
 rw[hq] at hld
 unfold ldN at hld
 rw[ho] at hld
 cases o with
 | cells cs t ro=>
   simp only at hld
   split at hld
   ·rename_i h5
    exact (hO _ _ _ rfl).2.1 _ ds[0] h5 (Option.some.inj hld)
   ·cases hld
 | _=>cases hld
theorem zrJ {g:AH} {p:Option Addr} {n:Nat} {rs:List zaj} (T:zbL g p n rs):∀b off,p=some ⟨b,off,none⟩→0 < n→∀o,g.get b=some o→¬ze7 o:=by
 rintro b off rfl hn o ho hO
 obtain⟨b2,off2,e,hi,hld, -⟩:=T.at (i:=0) hn
 cases e
 unfold ldN at hld
 rw[ho] at hld
 cases o with
 | cells cs t ro=>
   simp only at hld
   split at hld
   ·rename_i h5
    exact (hO _ _ _ rfl).2.2 _ _ h5 (Option.some.inj hld)
   ·cases hld
 | _=>cases hld
theorem zbC.stayM {g g' : AH} {r:zaj} (k:zbC g r) (s:zhN g g'):zbC g' r:={ k with shows:=k.shows.stayM s (zrI k.shows k.len) }
theorem zbL.stayM {g g' : AH} {p:Option Addr} {n:Nat} {rs:List zaj} (T:zbL g p n rs) (k:zhN g g'):zbL g' p n rs:=
 zla (T.shows.stayM k (zrJ T)) T.2.1 fun r hr=>(T.ok r hr).stayM k
theorem zbh.stayM {g g' : AH} {r:zaj} (k:zbh g r) (s:zhN g g'):zbh g' r:=by
 refine⟨k.1.stayM s,?_,fun a ha=>Nat.lt_of_lt_of_le (k.2.2 a ha) s.1⟩
 rcases k.2.1 with c | ⟨b,off,hp,c⟩
 ·exact .inl c
 ·refine .inr ⟨b,off,hp,?_⟩
  rcases c with c | ⟨c,cs,t,ro,hg,ht⟩
  ·exact .inl c
  ·have hb:b < g.next:=k.2.2 _ hp
   rcases s.2 b hb with h | ⟨o,h,ho⟩
   ·exact .inr ⟨c,cs,t,ro,h.trans hg,ht⟩
   ·rw[hg] at h
    cases h
    exact absurd (ht.trans (by simp)) (ho _ _ _ rfl).1
theorem zb2.stayM {nx:Int} {R:List zaj} {i:Int} {p:Option Addr} {n:Nat} {g g' : AH} (b:zb2 nx R i p n g) (k:zhN g g'):zb2 nx R i p n g':=by
 obtain⟨h1,rs',h2,h3⟩:=b
 exact⟨h1,rs',⟨h2.1.stayM k,fun r hr=>(h2.2 r hr).stayM k,h2.3⟩,h3⟩
def za0:List Value:=(List.replicate 64 ((List.replicate 128 (.int .u8 0)) ++ [.int .u64 0])).flatten
def zhO (l:List Value):Prop:=∃(bs:List Nat) (v:Int),l=zbY .u8 bs ++ [.int .u64 v]∧bs.length=128∧(∀x∈bs,x < 256)∧(Lit.int .u64 v).wf=true
def zdt (l:List Value) (i:Nat):List Value:=(l.drop (i * 129)).take 129
def zjO:List Value:=List.replicate 128 (.int .u8 0) ++ [.int .u64 0]
def zaZ (l:List Value):Prop:=l.length=8256∧∀i,i < 64→zhO (zdt l i)
theorem zaZ.len {l:List Value} (h:zaZ l):l.length=8256:=h.1
def zbj (M:List (Int×List Value)) (id:Int):List Value:=match M.find? fun p=>decide (p.1=id) with | some p=>p.2 | none=>za0
structure zlA (h:AH) (bm:Nat) (T:Int→List Value):Prop where
 get:∃es clock,h.get bm=some (.map es clock)∧zeK es clock=true∧∃M:List (Int×List Value),es.map (·.key)=M.map (fun p=>Value.int .u64 p.1)∧es.map (·.val)=M.map (fun p=>Value.agg p.2.toArray)∧
  (∀p∈M,(Lit.int .u64 p.1).wf=true∧zaZ p.2)∧(M.map (·.1)).Nodup∧∀id,T id=zbj M id
theorem zlA.near {h h' : AH} {bm:Nat} {T:Int→List Value} (k:zlA h bm T) (e:h'.get bm=h.get bm):zlA h' bm T:=by
 obtain⟨es,c,h1,h2⟩:=k.get
 exact⟨es,c,e.trans h1,h2⟩
theorem findT {id:Int} (hid:(Lit.int .u64 id).wf=true):∀{es:List MapEntry} {M:List (Int×List Value)},es.map (·.key)=M.map (fun p=>Value.int .u64 p.1)→es.map (·.val)=M.map (fun p=>Value.agg p.2.toArray)→(∀p∈M,(Lit.int .u64 p.1).wf=true∧zaZ p.2)→∀i,
 (M.find? (fun p=>decide (p.1=id))=none∧zez Tryz.prog 26 [.int .u64 id] es i=some none)∨∃j l,M[j]?= some (id,l)∧M.find? (fun p=>decide (p.1=id))=some (id,l)∧zez Tryz.prog 26 [.int .u64 id] es i=some (some (i+j,.agg l.toArray))
 | [],[],_,_,_,i=>.inl ⟨rfl,rfl⟩
 | e :: es,(x,l) :: M,hk,hv,hw,i=>by
   simp only[List.map_cons,List.cons.injEq] at hk hv
   unfold zez
   rw[hk.1,zvr (hw _ (List.mem_cons_self ..)).1]
   simp only
   rw[zv5]
   by_cases hx:id=x
   ·subst hx
    rw[beq_self_eq_true,cond_true,hv.1]
    exact .inr ⟨0,l,rfl,by simp,rfl⟩
   ·rw[beq_eq_false_iff_ne.2 hx,cond_false]
    have hd:decide (x=id)=false:=decide_eq_false fun q=>hx q.symm
    rcases findT hid hk.2 hv.2 (fun p hp=>hw p (List.mem_cons_of_mem _ hp)) (i+1) with ⟨h1,h2⟩ | ⟨j,y,h1,h2,h3⟩
    ·exact .inl ⟨by rw[List.find?_cons]; simp only[hd]; exact h1,h2⟩
    ·exact .inr ⟨j+1,y,h1,by rw[List.find?_cons]; simp only[hd]; exact h2,by rw[h3]; congr 3; omega⟩
 | [],_ :: _,hk,_,_,_=>by cases hk
 | _ :: _,[],hk,_,_,_=>by cases hk
theorem zmS {blk:List Value} {L L' : Nat} (hL:blk.length=L) (hl:L'≤L):∀(i n:Nat),i < n→((List.replicate n blk).flatten.drop (i * L)).take L'= blk.take L'
 | 0,n+1,_=>by
   rw[Nat.zero_mul,List.drop_zero,List.replicate_succ,List.flatten_cons,List.take_append_of_le_length (by omega)]
 | i+1,n+1,h=>by
   rw[List.replicate_succ,List.flatten_cons,show (i+1) * L=blk.length+i * L by rw[hL,Nat.succ_mul,Nat.add_comm],List.drop_append,Nat.add_sub_cancel_left,List.drop_of_length_le (by omega),List.nil_append]
   exact zmS hL hl i n (by omega)
theorem zh3 (n:Nat):zbY .u8 (List.replicate n 0)=List.replicate n (.int .u8 0):=by
 unfold zbY
 rw[List.map_replicate]
 rfl
theorem zh4:zhO zjO:=⟨List.replicate 128 0,0,by rw[zh3]; rfl,by simp,fun x hx=>by rw[List.eq_of_mem_replicate hx]; decide,by decide⟩
theorem zo4 {i:Nat} (hi:i < 64):zdt za0 i=zjO:=by
 unfold zdt za0
 rw[zmS (L:=129) (L':=129) (by simp) (Nat.le_refl _) i 64 hi]
 rfl
theorem zbq:zaZ za0:=⟨zjj,fun i hi=>by rw[zo4 hi]; exact zh4⟩
theorem zrK {M:List (Int×List Value)} (hw:∀p∈M,(Lit.int .u64 p.1).wf=true∧zaZ p.2) (id:Int):zaZ (zbj M id):=by
 unfold zbj
 cases hf:M.find? fun p=>decide (p.1=id) with
 | none=>exact zbq
 | some p=>exact (hw p (List.mem_of_find?_eq_some hf)).2
theorem zlA.ok {h:AH} {bm:Nat} {T:Int→List Value} (k:zlA h bm T) (id:Int):zaZ (T id):=by
 obtain⟨es,c,h1,h2,M,h3,h4,h5,h6,h7⟩:=k.get
 rw[h7]
 exact zrK h5 id
theorem zrL:zfT Tryz.prog 108=some (.agg za0.toArray):=by kernel_rfl
theorem zlA.lookup {h:AH} {bm:Nat} {T:Int→List Value} (k:zlA h bm T) {id:Int} (hid:(Lit.int .u64 id).wf=true):zbu Tryz.prog h 56 (.map (some bm)) (.int .u64 id) false=some (.agg (T id).toArray):=by
 obtain⟨es,c,h1,h2,M,h3,h4,h5,h6,h7⟩:=k.get
 unfold zbu
 rw[Tryz.underlying56]
 simp only
 rw[ztq,zvr hid,zrL,h1]
 simp only
 rw[h7]
 unfold zbj
 rcases findT hid h3 h4 h5 0 with ⟨q1,q2⟩ | ⟨j,l,q1,q2,q3⟩
 ·rw[q1,q2]
  rfl
 ·rw[q2,q3]
  rfl
theorem zfq:∀{es:List MapEntry} {c:Nat},(∀x∈es,x.born < c)→(es.map (·.born)).Nodup→zeK es c=true
 | [],_,_,_=>rfl
 | e :: es,c,h,hn=>by
   rw[List.map_cons,List.nodup_cons] at hn
   simp only[zeK,Bool.and_eq_true,Nat.blt_eq,Bool.not_eq_true']
   refine⟨⟨h e (List.mem_cons_self ..),List.any_eq_false.2 fun x hx=>?_⟩,zfq (fun x hx=>h x (List.mem_cons_of_mem _ hx)) hn.2⟩
   intro q
   exact hn.1 (List.mem_map.2 ⟨x,hx,Nat.eq_of_beq_eq_true q⟩)
theorem zln {M:List (Int×List Value)} (hn:(M.map (·.1)).Nodup) {p:Int×List Value} (hp:p∈M):zbj M p.1=p.2:=by
 induction M with
 | nil=>cases hp
 | cons q M ih=>
   rw[List.map_cons,List.nodup_cons] at hn
   unfold zbj
   rw[List.find?_cons]
   rcases List.mem_cons.1 hp with rfl | hp
   ·simp
   ·have:decide (q.1=p.1)=false:=decide_eq_false fun e=>hn.1 (List.mem_map.2 ⟨p,hp,e.symm⟩)
    simp only[this]
    exact ih hn.2 hp
theorem zlo {M:List (Int×List Value)} {id:Int} (h:∀p∈M,p.1≠id):zbj M id=za0:=by
 unfold zbj
 rw[List.find?_eq_none.2 fun p hp=>by simpa using h p hp]
theorem ztu (M:List (Int×List Value)) (id:Int) (l:List Value) (hM:∃p∈M,p.1=id) (x:Int):zbj (M.map fun p=>if p.1=id then (id,l) else p) x=if x=id then l else zbj M x:=by
 unfold zbj
 rw[List.find?_map]
 have hc:((fun p:Int×List Value=>decide (p.1=x))∘fun p=>if p.1=id then (id,l) else p)=fun p=>decide (p.1=x):=by
  funext p
  simp only[Function.comp]
  split
  ·rename_i e; rw[e]
  ·rfl
 rw[hc]
 cases hf:M.find? fun p=>decide (p.1=x) with
 | none=>
   have hx:x≠id:=by
    rintro rfl
    obtain⟨p,hp,e⟩:=hM
    exact List.find?_eq_none.1 hf p hp (by simpa using e)
   rw[if_neg hx]
   rfl
 | some p=>
   have hp:p.1=x:=by simpa using List.find?_some hf
   simp only[Option.map_some]
   rw[hp]
   split <;> rfl
theorem zlA.put {h:AH} {bm:Nat} {T:Int→List Value} (k:zlA h bm T) {id:Int} (hid:(Lit.int .u64 id).wf=true) {l:List Value} (ok:zaZ l):
 ∃h',zaF Tryz.prog h 56 (.map (some bm)) (.int .u64 id) (.agg l.toArray)=some h'∧zbR bm h h'∧zlA h' bm fun j=>if j=id then l else T j:=by
 obtain⟨es,c,h1,h2,M,h3,h4,h5,h6,h7⟩:=k.get
 obtain⟨b1,b2⟩:=zfp h2
 unfold zaF
 rw[Tryz.underlying56]
 simp only
 rw[ztq,zvr hid,h1]
 simp only
 rcases findT hid h3 h4 h5 0 with ⟨q1,q2⟩ | ⟨j,l0,q1,q2,q3⟩
 ·rw[q2]
  refine⟨_,rfl,zak _ _ _,⟨_,_,zad _ _ _,zfq (fun x hx=>?_) ?_,M ++ [(id,l)],by simp[h3],by simp[h4],fun p hp=>?_,?_,fun x=>?_⟩⟩
  ·rcases List.mem_append.1 hx with hx | hx
   ·have:=b1 x hx; omega
   ·rw[List.mem_singleton.1 hx]; exact Nat.lt_succ_self _
  ·rw[List.map_append]
   refine List.nodup_append.2 ⟨b2,by simp,fun a ha b hb e=>?_⟩
   obtain⟨x,hx,rfl⟩:=List.mem_map.1 ha
   have:=b1 x hx
   simp at hb
   omega
  ·rcases List.mem_append.1 hp with hp | hp
   ·exact h5 p hp
   ·rw[List.mem_singleton.1 hp]; exact⟨hid,ok⟩
  ·rw[List.map_append]
   refine List.nodup_append.2 ⟨h6,by simp,fun a ha b hb e=>?_⟩
   obtain⟨p,hp,rfl⟩:=List.mem_map.1 ha
   simp only[List.map_cons,List.map_nil,List.mem_singleton] at hb
   exact List.find?_eq_none.1 q1 p hp (by simp[e,hb])
  ·show (if x=id then l else T x)=_
   rw[h7]
   unfold zbj
   rw[List.find?_append]
   by_cases hx:x=id
   ·subst hx
    rw[if_pos rfl,q1]
    simp
   ·rw[if_neg hx]
    have:([(id,l)].find? fun p:Int×List Value=>decide (p.1=x))=none:=by simp[Ne.symm hx]
    rw[this,Option.or_none]
 ·rw[q3]
  have hmem:∃p∈M,p.1=id:=⟨_,List.mem_of_getElem? q1,rfl⟩
  have hat:∀i p,M[i]?= some p→p.1=id→i=j:=fun i p hi hp=>by
   have hl:=(List.getElem?_eq_some_iff.1 hi).1
   refine (List.getElem?_inj (l:=M.map (·.1)) (by simpa using hl) h6).1 ?_
   rw[List.getElem?_map,List.getElem?_map,hi,q1]
   simp[hp]
  have e1:∀i:Nat,(es[i]?).map (fun e:MapEntry=>e.key)=(M[i]?).map fun p:Int×List Value=>Value.int .u64 p.1:=fun i=>by rw[←List.getElem?_map,h3,List.getElem?_map]
  have e2:∀i:Nat,(es[i]?).map (fun e:MapEntry=>e.val)=(M[i]?).map fun p:Int×List Value=>Value.agg p.2.toArray:=fun i=>by rw[←List.getElem?_map,h4,List.getElem?_map]
  have mk:∀{β:Type} (f:MapEntry→β) (g:Int×List Value→β),(∀i:Nat,(es[i]?).map f=(M[i]?).map g)→(∀e:MapEntry,f { e with key:=.int .u64 id,val:=.agg l.toArray }= g (id,l))→(es.modify (0+j) fun e:MapEntry=>{ e with key:=.int .u64 id,val:=.agg l.toArray }).map f=(M.map fun p=>if p.1=id then (id,l) else p).map g:=by
   intro β f g hfg hid2
   apply List.ext_getElem?
   intro i
   rw[Nat.zero_add,List.getElem?_map,List.getElem?_modify,List.getElem?_map,List.getElem?_map]
   have hi:=hfg i
   cases hM:M[i]? with
   | none=>
     rw[hM] at hi
     cases hE:es[i]? with
     | none=>rfl
     | some e=>rw[hE] at hi; cases hi
   | some p=>
     rw[hM] at hi
     cases hE:es[i]? with
     | none=>rw[hE] at hi; cases hi
     | some e=>
       rw[hE] at hi
       simp only[Option.map_some] at hi ⊢
       by_cases hp:p.1=id
       ·rw[if_pos hp]
        have:=hat i p hM hp
        subst this
        show some (f (if i=i then _ else e))=_
        rw[if_pos rfl,hid2]
       ·rw[if_neg hp]
        have hne:j≠i:=by
         rintro rfl
         rw[q1] at hM
         cases hM
         exact hp rfl
        show some (f (if j=i then _ else e))=_
        rw[if_neg hne]
        exact hi
  have hbo:(es.modify (0+j) fun e:MapEntry=>{ e with key:=.int .u64 id,val:=.agg l.toArray }).map (·.born)=es.map (·.born):=by
   apply List.ext_getElem?
   intro i
   rw[List.getElem?_map,List.getElem?_modify,List.getElem?_map]
   cases es[i]? with
   | none=>rfl
   | some e=>
     show some (if 0+j=i then _ else e).born=_
     split <;> rfl
  refine⟨_,rfl,zak _ _ _,⟨_,_,zad _ _ _,zfq (fun x hx=>?_) (by rw[hbo]; exact b2),M.map (fun p=>if p.1=id then (id,l) else p),mk _ _ e1 (fun _=>rfl),mk _ _ e2 (fun _=>rfl),fun p hp=>?_,?_,fun x=>?_⟩⟩
  ·have:x.born∈es.map (·.born):=by rw[←hbo]; exact List.mem_map.2 ⟨x,hx,rfl⟩
   obtain⟨y,hy,e⟩:=List.mem_map.1 this
   rw[←e]
   exact b1 y hy
  ·obtain⟨q,hq,rfl⟩:=List.mem_map.1 hp
   split
   ·exact⟨hid,ok⟩
   ·exact h5 q hq
  ·have:(M.map fun p=>if p.1=id then (id,l) else p).map (·.1)=M.map (·.1):=by
    rw[List.map_map]
    refine List.map_congr_left fun p _=>?_
    simp only[Function.comp]
    split
    ·rename_i e; exact e.symm
    ·rfl
   rw[this]
   exact h6
  ·show (if x=id then l else T x)=_
   rw[ztu M id l hmem x,h7]
theorem zlA.del {h:AH} {bm:Nat} {T:Int→List Value} (k:zlA h bm T) {id:Int} (hid:(Lit.int .u64 id).wf=true):
 ∃h',zan Tryz.prog h .delete #[56,26] [.map (some bm),.int .u64 id]=some (undef,h')∧zbR bm h h'∧zlA h' bm fun j=>if j=id then za0 else T j:=by
 obtain⟨es,c,h1,h2,M,h3,h4,h5,h6,h7⟩:=k.get
 obtain⟨b1,b2⟩:=zfp h2
 have hsh:zan Tryz.prog h .delete #[56,26] [.map (some bm),.int .u64 id]=zfU Tryz.prog h 56 (.map (some bm)) (.int .u64 id):=rfl
 rw[hsh]
 unfold zfU
 rw[Tryz.underlying56]
 simp only
 rw[ztq,zvr hid,h1]
 simp only
 rcases findT hid h3 h4 h5 0 with ⟨q1,q2⟩ | ⟨j,l0,q1,q2,q3⟩
 ·rw[q2]
  refine⟨_,rfl,zak _ _ _,⟨_,_,zad _ _ _,h2,M,h3,h4,h5,h6,fun x=>?_⟩⟩
  show (if x=id then za0 else T x)=_
  by_cases hx:x=id
  ·subst hx
   rw[if_pos rfl]
   unfold zbj
   rw[q1]
  ·rw[if_neg hx,h7]
 ·rw[q3,Nat.zero_add]
  have hsub:=List.eraseIdx_sublist es j
  have hsubM:=List.eraseIdx_sublist M j
  refine⟨_,rfl,zak _ _ _,⟨_,_,zad _ _ _,zfq (fun x hx=>b1 x (hsub.mem hx)) ((hsub.map _).nodup b2),M.eraseIdx j,by rw[zcf,h3,zcf],by rw[zcf,h4,zcf],fun p hp=>h5 p (hsubM.mem hp),(hsubM.map _).nodup h6,fun x=>?_⟩⟩
  show (if x=id then za0 else T x)=_
  rw[h7]
  have hn' : ((M.eraseIdx j).map (·.1)).Nodup:=(hsubM.map _).nodup h6
  have hat:∀i p,M[i]?= some p→p.1=id→i=j:=fun i p hi hp=>by
   have hl:=(List.getElem?_eq_some_iff.1 hi).1
   refine (List.getElem?_inj (l:=M.map (·.1)) (by simpa using hl) h6).1 ?_
   rw[List.getElem?_map,List.getElem?_map,hi,q1]
   simp[hp]
  by_cases hx:x=id
  ·subst hx
   rw[if_pos rfl]
   refine (zlo fun p hp e=>?_).symm
   obtain⟨i,hij,hi⟩:=List.mem_eraseIdx_iff_getElem?.1 hp
   exact hij (hat i p hi e)
  ·rw[if_neg hx]
   by_cases he:∃p∈M,p.1=x
   ·obtain⟨p,hp,rfl⟩:=he
    obtain⟨i,hi⟩:=List.mem_iff_getElem?.1 hp
    have hm:p∈M.eraseIdx j:=List.mem_eraseIdx_iff_getElem?.2 ⟨i,fun e=>by
     subst e
     rw[q1] at hi
     cases hi
     exact hx rfl,hi⟩
    rw[zln h6 hp,zln hn' hm]
   ·rw[zlo fun p hp e=>he ⟨p,hp,e⟩,zlo fun p hp e=>he ⟨p,hsubM.mem hp,e⟩]
theorem zlA.new {h h1:AH} (e:h1=h.alloc (.map [] 0)):zlA h1 h.next fun _=>za0:=
 ⟨_,_,zaf e,rfl,[],rfl,rfl,fun p hp=>(by cases hp),List.nodup_nil,fun x=>rfl⟩
end Go.Am
