/-
  BOOKS: the document's clone, snapshot.
-/
import Derived.Test.YtkapnilnhoiooaaGreatCRuE
set_option linter.unusedVariables false
set_option linter.unusedSimpArgs false
set_option maxRecDepth 100000
namespace Go.Am
open Go.Proofs
theorem zrv {nx:Int} {rs:List zaj} (R:zam nx rs) {v:zaj} (hv:v∈rs) {f:zaj→zaj} (hne:∀r,r.id≠v.id→f r=r) (hid:(f v).id=v.id):zn6 (f v) rs=rs.map f:=by
 unfold zn6
 refine List.map_congr_left fun r hr=>?_
 rw[hid]
 by_cases e:r.id=v.id
 ·rw[if_pos e,R.fam.uniq hr hv e]
 ·rw[if_neg e,hne r e]
section
variable {K:Xs} {h:AH} {p:Option Addr} {n c:Nat} {rs:List zaj} {nx:Int}
theorem zu9 (kk:zdm K) (T:zbL h p n rs) (form:zhk p) (R:zam nx rs) (hn40:n≤1000) (hbn:0≤nx∧nx < 1000000000000000) (f:ByteArray) (hf:f.size≤9223372036854775806) (f2:ByteArray) (hf2:f2.size≤9223372036854775806):
 Wf Tryz.prog K 34 [.agg #[.int .u64 nx,.slice p n c],.string f,.string f2] h fun v h'=>zru (zaK nx rs (spl f) (spl f2)) v h'∧Old h h':=by
 refine zeS kk.clone _ _ _ _ _ _ h _ fun g0 e0 g1 e1=>?_
 have d1:=HdB.of e0 e1
 have hn:=T.1
 have err:∀{e:Int},zaK nx rs (spl f) (spl f2)=(nx,rs,e)→∀{c:Nat} {g g' : AH},zbw nx rs nx p n g'→Old h g'→zbR g0.next g g'→zru (zaK nx rs (spl f) (spl f2)) (.tuple #[.agg #[.int .u64 nx,.slice p n c],.int .i64 e]) g'∧Old h g':=fun {e} e' {c} {g} {g'} br o _=>⟨⟨_,_,_,_,by rw[e'],by rw[e']; exact br⟩,o⟩
 refine (zrs kk f hf).mono ?_
 rintro _ g3 ⟨⟨rfl,⟨a,b⟩,ha⟩ | ⟨rfl,ha⟩,o3⟩
 ·have d3:=d1.old o3
  refine .inl ⟨rfl,(zrr kk f2 hf2).mono ?_⟩
  rintro _ g5 ⟨⟨rfl,a2,ha2⟩ | ⟨rfl,ha2⟩,o5⟩
  ·have d5:=d3.old o5
   obtain⟨hs,rfl,na⟩:=zgN ha2
   refine .inl ⟨rfl,_,_,_,d5.sl,(zds kk.r16 (c:=c) (T.old d5.o) R f hf).mono ?_⟩
   rintro _ g10 ⟨q,o10⟩
   rcases namedD q with ⟨i,r,hl,hr,rfl⟩ | ⟨hl,e,he,rfl⟩
   ·have hA:zaK nx rs (spl f) (spl a2)=if 32≤rs.length then (nx,rs,(175:Int)) else match lookOf rs (spl a2) with
     | some _=>(nx,rs,171)
     | none=>(nx+1,rs ++ [zsk nx a2 r.id r.blocks r.root],0):=by
     unfold zaK; rw[ha]; simp only; rw[ha2]; simp only; rw[hl]; simp only; rw[hr]; rfl
    refine⟨_,_,_,_,_,_,_,_,_,_,_,_,_,_,rfl,fun g25 e25=>?_⟩
    obtain⟨g26,k26,n26,o26,v26⟩:=zap e25 (vs:=setC r) rfl
    have w26:=(v26 [] (fun c hc=>by cases hc)).1
    have d26:=(d5.old o10).old o26
    refine⟨rfl,g26,k26,fun _=>⟨_,_,_,d26.sl,fun q=>zhA d26 T form fun g'=>err (by rw[hA,if_pos (by omega)]),fun q=>⟨_,_,_,_,d26.ldN,(zll kk (c:=c) (T.old d26.o) R a2 hf2 nx).mono ?_⟩⟩,fun z=>absurd rfl z⟩
    rw[if_neg (by omega)] at hA
    rintro _ g44 ⟨⟨rfl,j,hl2⟩ | ⟨rfl,hl2⟩,o44⟩
    ·exact .inl ⟨rfl,zhA (d26.old o44) T form fun g'=>err (by rw[hA,hl2])⟩
    ·have d44:=d26.old o44
     rw[zgo hl2] at hA
     have w44:g44.get g10.next=some (.cells (setC r) 81 false):=(o44.2 _ (by omega)).trans w26
     have okr:=T.ok r (List.mem_of_getElem? hr)
     refine .inr ⟨rfl,_,_,_,_,d44.ldN,_,zae w44 rfl,_,zae w44 rfl,_,_,_,zja (zah w44 rfl:ldN g44 g10.next 0 11=_) 7 3 (by omega),(zu8 kk (T.old d44.o) form hn40 hbn ⟨0,a2,false,0,r.id,0,r.blocks,r.root,none,0,0,[]⟩).mono ?_⟩
     rintro _ g54 ⟨⟨p',c',rfl,G⟩,o54⟩
     have l1:=d44.lt
     have l2:=d44.n0
     refine⟨_,_,_,_,rfl,rfl,zw3 (d44.old o54) G (by omega) (by omega) (fun g' o r' hr'=>?_) fun g' br o nr=>⟨⟨_,_,_,_,by rw[hA],by rw[hA]; exact br⟩,o⟩⟩
     rcases za1.1 hr' with hr' | rfl
     ·exact (T.ok r' hr').old o
     ·exact (zlf g' hbn okr.id okr.root a2).1
   ·refine⟨_,_,_,_,_,_,_,_,_,_,_,_,_,_,rfl,fun g25 e25=>?_⟩
    obtain⟨g26,k26,n26,o26,v26⟩:=zap e25 (vs:=setC zaq) rfl
    exact⟨rfl,g26,k26,fun z=>absurd z he,fun _=>zhA ((d5.old o10).old o26) T form fun g'=>err (by unfold zaK; rw[ha]; simp only; rw[ha2]; simp only; rw[hl])⟩
  ·exact .inr ⟨rfl,zhA (d3.old o5) T form fun g'=>err (by unfold zaK; rw[ha]; simp only; rw[zdX ha2])⟩
 ·exact .inr ⟨rfl,zhA (d1.old o3) T form fun g'=>err (by unfold zaK; rw[zgn ha])⟩
theorem zva (kk:zdm K) (T:zbL h p n rs) (form:zhk p) (R:zam nx rs) (hn40:n≤1000) (hbn:0≤nx∧nx < 1000000000000000) (f:ByteArray) (hf:f.size≤9223372036854775806) (st:Int) (hst:(Lit.int .u64 st).wf=true):
 Wf Tryz.prog K 33 [.agg #[.int .u64 nx,.slice p n c],.string f,.int .u64 st] h fun v h'=>zru (snapA nx rs (spl f) st) v h'∧Old h h':=by
 refine zfC kk.snapA _ _ _ _ _ _ h _ fun g0 e0 g1 e1=>?_
 have d1:=HdB.of e0 e1
 have hn:=T.1
 have err:∀{e:Int},snapA nx rs (spl f) st=(nx,rs,e)→∀{c:Nat} {g g' : AH},zbw nx rs nx p n g'→Old h g'→zbR g0.next g g'→zru (snapA nx rs (spl f) st) (.tuple #[.agg #[.int .u64 nx,.slice p n c],.int .i64 e]) g'∧Old h g':=fun {e} e' {c} {g} {g'} br o _=>⟨⟨_,_,_,_,by rw[e'],by rw[e']; exact br⟩,o⟩
 refine (zrs kk f hf).mono ?_
 rintro _ g3 ⟨⟨rfl,⟨a,b⟩,ha⟩ | ⟨rfl,ha⟩,o3⟩
 ·have d3:=d1.old o3
  obtain⟨hs,hb,na,nb, -⟩:=zgO ha
  refine .inl ⟨rfl,(zgj kk.r16.r15.r1 f hf).mono ?_⟩
  rintro _ g5 ⟨⟨a',b',hs',rfl⟩ | ⟨hs',rfl⟩,rfl⟩
  ·obtain⟨rfl,rfl⟩:a=a'∧b=b':=by rw[zaH hs'] at hs; cases hs; exact⟨rfl,rfl⟩
   refine⟨_,_,_,rfl,_,_,_,d3.sl,(zds kk.r16 (c:=c) (T.old d3.o) R a na.size).mono ?_⟩
   rintro _ g13 ⟨q,o13⟩
   have q':=namedD q
   rw[zn2 na,show lookOf rs (some (a,noB))=lookN rs a noB from rfl] at q'
   rcases q' with ⟨i,r,hl,hr,rfl⟩ | ⟨hl,e,he,rfl⟩
   ·have hA:snapA nx rs (spl f) st=if 32≤rs.length then (nx,rs,(175:Int)) else match lookOf rs (spl f) with
     | some _=>(nx,rs,171)
     | none=>if st < 1∨281474976710655 < st∨st≤flr rs r.id then (nx,rs,176) else (nx+1,rs.map (zcp nx r) ++ [zi1 nx r b st],0):=by
     unfold snapA; rw[ha]; simp only; rw[hl]; simp only; rw[hr]; rfl
    have hrm:r∈rs:=List.mem_of_getElem? hr
    have okr:=T.ok r hrm
    refine⟨_,_,_,_,_,_,_,_,_,_,_,_,_,_,rfl,fun g28 e28=>?_⟩
    obtain⟨g29,k29,n29,o29,v29⟩:=zap e28 (vs:=setC r) rfl
    have w29:=(v29 [] (fun c hc=>by cases hc)).1
    have d13:=d3.old o13
    have d29:=d13.old o29
    refine⟨rfl,g29,k29,fun _=>⟨_,_,_,d29.sl,fun q=>zhA d29 T form fun g'=>err (by rw[hA,if_pos (by omega)]),fun q=>⟨_,_,_,_,d29.ldN,(zll kk (c:=c) (T.old d29.o) R f hf nx).mono ?_⟩⟩,fun z=>absurd rfl z⟩
    rw[if_neg (by omega)] at hA
    rintro _ g47 ⟨⟨rfl,j,hl2⟩ | ⟨rfl,hl2⟩,o47⟩
    ·exact .inl ⟨rfl,zhA (d29.old o47) T form fun g'=>err (by rw[hA,hl2])⟩
    ·have d47:=d29.old o47
     rw[zgo hl2] at hA
     simp only at hA
     have w47:g47.get g13.next=some (.cells (setC r) 81 false):=(o47.2 _ (by omega)).trans w29
     have l13:=d13.lt
     have l0:=d13.n0
     have m47:=o47.1
     refine .inr ⟨rfl,fun q1=>zhA d47 T form fun g'=>err (by rw[hA,if_pos (.inl q1)]),fun q1=>⟨fun q2=>zhA d47 T form fun g'=>err (by rw[hA,if_pos (.inr (.inl (by omega)))]),fun q2=>⟨_,_,_,d47.sl,_,zae w47 rfl,(zre kk.r16 (c:=c) (T.old d47.o) R.zero r.id).mono ?_⟩⟩⟩
     rintro _ g80 ⟨rfl,o80⟩
     have d80:=d47.old o80
     have w80:g80.get g13.next=some (.cells (setC r) 81 false):=(o80.2 _ (by omega)).trans w47
     have m80:=o80.1
     refine⟨_,rfl,fun q3=>zhA d80 T form fun g'=>err (by rw[hA,if_pos (.inr (.inr q3))]),fun q3=>?_⟩
     rw[if_neg (by omega)] at hA
     refine⟨_,zae w80 rfl,_,zae w80 rfl,_,zae w80 rfl,_,_,_,zja (zah w80 rfl:ldN g80 g13.next 0 11=_) 7 3 (by omega),_,_,_,zae w80 rfl,fun g100 e100=>?_⟩
     obtain⟨g101,k101,n101,o101,v101⟩:=zap e100 (vs:=setC ⟨0,b,true,r.id,r.prev,st,r.blocks,r.root,r.dp,r.dn,r.dc,r.dead⟩) rfl
     have ws101:=(v101 [] (fun c hc=>by cases hc)).1
     have d101:=d80.old o101
     have w101:=(o101.2 g13.next (by omega)).trans w80
     obtain⟨g103,k103,nr103,w103⟩:=zmI (v:=.int .u64 nx) w101 (i:=4) (by simp[setC])
     obtain⟨g104,k104,nr104,w104⟩:=zmI (v:=.slice none 0 0) w103 (i:=10) (by simp[setC])
     have nr:=nr103.trans nr104
     have d104:=d101.near nr (by omega)
     have w104:g104.get g13.next=some (.cells (setC (zcp nx r r)) 81 false):=by rw[zcq]; exact w104
     have ws104:=(nr.2 g80.next (by omega)).trans ws101
     have okv:∀{g:AH},zbC g (zcp nx r r):=fun {g}=>by
      rw[zcq]
      have z:=zef g
      exact⟨okr.id,okr.own,zlg hbn,okr.stamp,okr.root,z.dead,z.form,z.room,z.len,z.shows⟩
     refine⟨rfl,g101,k101,_,d101.nx,g103,k103,g104,k104,_,_,_,d104.sl,_,_,_,_,_,_,_,_,_,_,_,_,_,zah w104 rfl,(ztm kk (T.old d104.o) hn40 (s:=zcp nx r r) okv).mono ?_⟩
     rintro _ g122 ⟨p123,c125,rfl,G,o122⟩
     have d122:=d104.old o122
     have n104:=nr.1
     have ws122:=(o122.2 g80.next (by omega)).trans ws104
     rw[zrv R hrm (fun r' hne=>zcO hne) (zbc nx r r).1] at G
     have okm:∀{g:AH},Old h g→∀x∈rs.map (zcp nx r),zbC g x:=fun {g} o x hx=>by
      obtain⟨y,hy,rfl⟩:=List.mem_map.1 hx
      by_cases e:y.id=r.id
      ·rw[R.fam.uniq hy hrm e]
       exact okv
      ·rw[zcO e]
       exact (T.ok y hy).old o
     have T122:zbL g122 p123 n (rs.map (zcp nx r)):=zdd G (by omega) (okm d122.o)
     refine⟨_,_,_,rfl,_,d122.nx,_,_,_,_,_,_,_,_,_,_,_,_,_,zah ws122 rfl,(zu8 kk T122 G.form hn40 hbn ⟨0,b,true,r.id,r.prev,st,r.blocks,r.root,r.dp,r.dn,r.dc,r.dead⟩).mono ?_⟩
     rintro _ g141 ⟨⟨p',c',rfl,G2⟩,o141⟩
     have l1:=d122.lt
     have l2:=d122.n0
     have d141:=d122.old o141
     have lr:=T.ok r hrm
     obtain⟨g146,k146,i147,p148,n149,c150,k147,HC⟩:=zw3 (nx':=nx+1) d141 G2 (by omega) (by omega) (fun g' o r' hr'=>(by
      rcases za1.1 hr' with hr' | rfl
      ·exact okm o r' hr'
      ·have ok':=lr.old o
       exact⟨zlg hbn,ok'.id,ok'.prev,hst,ok'.root,ok'.dead,ok'.form,ok'.room,ok'.len,ok'.shows⟩)) (C:=fun i p n c g=>zru (snapA nx rs (spl f) st) (.tuple #[.agg #[.int .u64 i,.slice p n c],.int .i64 0]) g∧Old h g) fun g' br o nr=>⟨⟨_,_,_,_,by rw[hA],by rw[hA]; exact br⟩,o⟩
     exact⟨_,_,_,_,rfl,rfl,g146,k146,d104.nx,d122.nx,zah ws104 rfl,zah ws122 rfl,i147,p148,n149,c150,k147,HC⟩
   ·refine⟨_,_,_,_,_,_,_,_,_,_,_,_,_,_,rfl,fun g28 e28=>?_⟩
    obtain⟨g29,k29,n29,o29,v29⟩:=zap e28 (vs:=setC zaq) rfl
    exact⟨rfl,g29,k29,fun z=>absurd z he,fun _=>zhA ((d3.old o13).old o29) T form fun g'=>err (by unfold snapA; rw[ha]; simp only; rw[hl])⟩
  ·rw[zbB hs'] at hs
   cases hs
 ·exact .inr ⟨rfl,zhA (d1.old o3) T form fun g'=>err (by unfold snapA; rw[zgn ha])⟩
end
def zto (o:Int×List zaj×zaj×Int) (v:Value) (g:AH):Prop:=∃i p' n' c' s,v=.tuple #[.agg #[.int .u64 i,.slice p' n' c'],.agg (setC s).toArray,.int .i64 o.2.2.2]∧zbw o.1 o.2.1 i p' n' g∧zbC g s∧cor s=cor o.2.2.1
theorem zrw {g:AH} {l k:Nat} {cs vs:List Value} {t:TypeId} (w:g.get l=some (.cells cs t false)) (hl:k+vs.length≤cs.length):∃g',stN g l k vs=some g'∧zbR l g g'∧g'.get l=some (.cells (cs.take k ++ vs ++ cs.drop (k+vs.length)) t false):=⟨_,zj7 w hl,zak _ _ _,zad _ _ _⟩
section
variable {K:Xs} {h:AH} {p:Option Addr} {n c:Nat} {rs:List zaj} {nx:Int}
theorem zv3 {g0 g:AH} (d:HdB h g0 g nx p n c) (T:zbL h p n rs) (form:zhk p) {l:Nat} (l1:h.next+2≤l) (c2:g.get l=some (.cells (setC zaq) 81 false)) {C:Int→Option Addr→Nat→Nat→AH→Prop} (HC:∀g',zbw nx rs nx p n g'→Old h g'→g'.get l=some (.cells (setC zaq) 81 false)→C nx p n c g'):
 ∃i4:Int,∃(p5:Option Addr) (n6 c7:Nat),ldN g h.next 0 2=some [.int .u64 i4,.slice p5 n6 c7]∧(List.length [Value.int .u64 i4,.slice p5 n6 c7]=2)∧
  ∃h8:AH,stN g g0.next 0 [.int .u64 i4,.slice p5 n6 c7]=some h8∧
   (List.length [(Value.int .u64 0),(.string (ByteArray.mk #[])),(.bool false),(.int .u64 0),(.int .u64 0),(.int .u64 0),(.int .i64 0),(.int .i64 0),(.int .u64 0),(.int .u32 0),(.slice none 0 0)]=11)∧
   ∃h18:AH,stN h8 l 0 [(.int .u64 0),(.string (ByteArray.mk #[])),(.bool false),(.int .u64 0),(.int .u64 0),(.int .u64 0),(.int .i64 0),(.int .i64 0),(.int .u64 0),(.int .u32 0),(.slice none 0 0)]=some h18∧
   ∃i9:Int,∃(p10:Option Addr) (n11 c12:Nat),ldN h18 g0.next 0 2=some [.int .u64 i9,.slice p10 n11 c12]∧C i9 p10 n11 c12 h18:=by
 have m1:=d.lt
 have m2:=d.n0
 have s1:=zak g0.next g (.cells [.int .u64 nx,.slice p n c] 29 false)
 have cl:=(s1.2 l (by omega)).trans c2
 have s2:=zak l (g.set g0.next (.cells [.int .u64 nx,.slice p n c] 29 false)) (.cells (setC zaq) 81 false)
 have o':=zao (zao d.o s1 (by omega)) s2 (by omega)
 exact⟨_,_,_,_,d.ldN,rfl,_,zat d.c1 rfl,rfl,_,zat cl rfl,_,_,_,_,zah ((s2.2 _ (by omega)).trans (zad _ _ _)) rfl,HC _ ⟨rfl,form,rs,T.old o',rfl⟩ o' (zad _ _ _)⟩
theorem zv4 (kk:zdm K) (T:zbL h p n rs) (form:zhk p) (R:zam nx rs) (hn40:n≤1000) (f:ByteArray) (hf:f.size≤9223372036854775806):
 Wf Tryz.prog K 36 [.agg #[.int .u64 nx,.slice p n c],.string f] h fun v h'=>zto (zaW nx rs (spl f)) v h'∧Old h h':=by
 refine zfD kk.back _ _ _ _ _ h _ fun g0 e0 g1 e1 g2 e2=>?_
 have o2:=zab e2
 have n2:=zaa e2
 have n1:=zaa e1
 have n0:=zaa e0
 have d2:=(HdB.of e0 e1).old o2
 have hn:=T.1
 have c2:∀{g:AH},Old g2 g→g.get g1.next=some (.cells (setC zaq) 81 false):=fun o=>(o.2 _ (by omega)).trans (zaf e2)
 have errB:∀{g:AH} {e:Int},Old g2 g→zaW nx rs (spl f)=(nx,rs,zaq,e)→_:=fun {g} {e} og q=>zv3 (d2.old og) T form (l:=g1.next) (by omega) (c2 og) (C:=fun i p' n' c' g'=>∃i41:Int,∃s42:ByteArray,∃b43:Bool,∃i44:Int,∃i45:Int,∃i46:Int,∃i47:Int,∃i48:Int,∃i49:Int,∃i50:Int,∃(p51:Option Addr) (n52 c53:Nat),ldN g' g1.next 0 11=some [.int .u64 i41,.string s42,.bool b43,.int .u64 i44,.int .u64 i45,.int .u64 i46,.int .i64 i47,.int .i64 i48,.int .u64 i49,.int .u32 i50,.slice p51 n52 c53]∧
  (zto (zaW nx rs (spl f)) (.tuple #[.agg #[.int .u64 i,.slice p' n' c'],.agg #[.int .u64 i41,.string s42,.bool b43,.int .u64 i44,.int .u64 i45,.int .u64 i46,.int .i64 i47,.int .i64 i48,.int .u64 i49,.int .u32 i50,.slice p51 n52 c53],.int .i64 e]) g'∧Old h g')) fun g' br o cz=>⟨_,_,_,_,_,_,_,_,_,_,_,_,_,zah cz rfl,⟨_,_,_,_,zaq,by rw[q]; rfl,by rw[q]; exact br,zef _,by rw[q]⟩,o⟩
 refine (zrr kk f hf).mono ?_
 rintro _ g4 ⟨⟨rfl,a,ha⟩ | ⟨rfl,ha⟩,o4⟩
 ·have d4:=d2.old o4
  refine .inl ⟨rfl,_,_,_,d4.sl,(zds kk.r16 (c:=c) (T.old d4.o) R f hf).mono ?_⟩
  rintro _ g9 ⟨q,o9⟩
  have d9:=d4.old o9
  rcases namedD q with ⟨i,v,hl,hr,rfl⟩ | ⟨hl,e,he,rfl⟩
  ·refine⟨_,_,_,_,_,_,_,_,_,_,_,_,_,_,rfl,fun g24 e24=>?_⟩
   obtain⟨g25,k25,n25,o25,v25⟩:=zap e24 (vs:=setC v) rfl
   have w25:=(v25 [] (fun c hc=>by cases hc)).1
   have d25:=d9.old o25
   have hvm:v∈rs:=List.mem_of_getElem? hr
   have okv:=T.ok v hvm
   refine⟨rfl,g25,k25,fun _=>⟨_,_,_,d25.sl,_,zae w25 rfl,(ze1 kk.r16 (c:=c) (T.old d25.o) v.prev).mono ?_⟩,fun z=>absurd rfl z⟩
   rintro _ g31 ⟨⟨j,x,hj,hx,rfl⟩ | ⟨hj,rfl⟩,o31⟩
   ·have d31:=d25.old o31
    have hA:zaW nx rs (spl f)=(nx,rs.map (zdU v x.root),v,0):=by unfold zaW; rw[ha]; simp only; rw[hl]; simp only; rw[hr]; simp only; rw[hj]; simp only; rw[hx]
    have okx:=T.ok x (List.mem_of_getElem? hx)
    refine⟨_,_,_,_,_,_,_,_,_,_,_,_,_,.inl ⟨rfl,fun g45 e45=>?_⟩⟩
    obtain⟨g46,k46,n46,o46,v46⟩:=zap e45 (vs:=setC x) rfl
    have w46:=(v46 [] (fun c hc=>by cases hc)).1
    have m31:=o31.1
    have m9:=d9.lt
    have m0:=d9.n0
    have m46:=o46.1
    have wv46:g46.get g9.next=some (.cells (setC v) 81 false):=(o46.2 _ (by omega)).trans ((o31.2 _ (by omega)).trans w25)
    refine⟨rfl,g46,k46,_,_,_,_,_,_,_,_,_,_,_,_,_,zah wv46 rfl,fun g60 e60=>?_⟩
    obtain⟨g61,k61,n61,o61,v61⟩:=zap e60 (vs:=setC v) rfl
    have w61:=(v61 [] (fun c hc=>by cases hc)).1
    have d61:=(d31.old o46).old o61
    have wx61:=(o61.2 g31.next (by omega)).trans w46
    have wv61:=(o61.2 g9.next (by omega)).trans wv46
    obtain⟨g65,k65,nr65,w65⟩:=zrw (k:=7) (vs:=[.int .i64 x.root.1,.int .u64 x.root.2.1,.int .u32 x.root.2.2]) w61 (by simp[setC])
    obtain⟨g66,k66,nr66,w66⟩:=zmI (v:=.slice none 0 0) w65 (i:=10) (by simp[setC])
    have nr:=nr65.trans nr66
    have w66:g66.get g46.next=some (.cells (setC (zdU v x.root v)) 81 false):=by rw[zfn]; exact w66
    have d66:=d61.near nr (by omega)
    have wv66:=(nr.2 g9.next (by omega)).trans wv61
    have okb:∀{g:AH},zbC g (zdU v x.root v):=fun {g}=>by
     rw[zfn]
     have z:=zef g
     exact⟨okv.id,okv.own,okv.prev,okv.stamp,okx.root,z.dead,z.form,z.room,z.len,z.shows⟩
    refine⟨rfl,g61,k61,_,_,_,zja (zah wx61 rfl:ldN g61 g31.next 0 11=_) 7 3 (by omega),rfl,g65,k65,g66,k66,_,_,_,d66.sl,_,_,_,_,_,_,_,_,_,_,_,_,_,zah w66 rfl,(ztm kk (T.old d66.o) hn40 (s:=zdU v x.root v) okb).mono ?_⟩
    rintro _ g84 ⟨p85,c87,rfl,G,o84⟩
    have hbid:(zdU v x.root v).id=v.id:=by rw[zfn]; rfl
    rw[zrv R hvm (fun r' hne=>zlh hne _) hbid] at G
    have d84:=d66.old o84
    have m66:=nr.1
    have m84:=o84.1
    have wv84:=(o84.2 g9.next (by omega)).trans wv66
    have cz84:g84.get g1.next=some (.cells (setC zaq) 81 false):=by
     rw[o84.2 _ (by omega),nr.2 _ (by omega)]
     exact c2 (((((o4.trans o9).trans o25).trans o31).trans o46).trans o61)
    have s1:=zak g0.next g84 (.cells [.int .u64 nx,.slice p85 n c87] 29 false)
    have cl:=(s1.2 g1.next (by omega)).trans cz84
    have wv89:=(s1.2 g9.next (by omega)).trans wv84
    have s2:=zak g1.next (g84.set g0.next (.cells [.int .u64 nx,.slice p85 n c87] 29 false)) (.cells (setC v) 81 false)
    have o':=zao (zao d84.o s1 (by omega)) s2 (by omega)
    have G2:=(G.near s1 (by omega) (Nat.le_refl _)).near s2 (by omega) (Nat.le_refl _)
    have okm:∀r∈rs.map (zdU v x.root),zbC _ r:=fun r hr'=>by
     obtain⟨y,hy,rfl⟩:=List.mem_map.1 hr'
     by_cases e:y.id=v.id
     ·rw[R.fam.uniq hy hvm e]
      exact okb
     ·rw[zlh e]
      exact (T.ok y hy).old o'
    exact⟨_,_,_,rfl,_,d84.nx,rfl,_,zat d84.c1 rfl,_,_,_,_,_,_,_,_,_,_,_,_,_,zah wv89 rfl,rfl,_,zat cl rfl,d66.nx,d84.nx,zah wv66 rfl,zah wv84 rfl,zah wv84 rfl,zah wv89 rfl,_,_,_,_,zah ((s2.2 _ (by omega)).trans (zad _ _ _)) rfl,_,_,_,_,_,_,_,_,_,_,_,_,_,zah (zad _ _ _) rfl,⟨_,_,_,_,v,by rw[hA]; rfl,by rw[hA]; exact⟨rfl,G2.form,_,zdd G2 (by omega) okm,rfl⟩,okv.old o',by rw[hA]⟩,o'⟩
   ·have d31:=d25.old o31
    refine⟨_,_,_,_,_,_,_,_,_,_,_,_,_,.inr ⟨rfl,fun g45 e45=>?_⟩⟩
    obtain⟨g46,k46,n46,o46,v46⟩:=zap e45 (vs:=setC zaq) rfl
    exact⟨rfl,g46,k46,errB ((((o4.trans o9).trans o25).trans o31).trans o46) (by unfold zaW; rw[ha]; simp only; rw[hl]; simp only; rw[hr]; simp only; rw[hj])⟩
  ·refine⟨_,_,_,_,_,_,_,_,_,_,_,_,_,_,rfl,fun g24 e24=>?_⟩
   obtain⟨g25,k25,n25,o25,v25⟩:=zap e24 (vs:=setC zaq) rfl
   exact⟨rfl,g25,k25,fun z=>absurd z he,fun _=>errB ((o4.trans o9).trans o25) (by unfold zaW; rw[ha]; simp only; rw[hl])⟩
 ·exact .inr ⟨rfl,errB o4 (by unfold zaW; rw[zdX ha])⟩
theorem zrx (kk:zdm K) (T:zbL h p n rs) (form:zhk p) (R:zam nx rs) (hn40:n≤1000) (f:ByteArray) (hf:f.size≤9223372036854775806):
 Wf Tryz.prog K 39 [.agg #[.int .u64 nx,.slice p n c],.string f] h fun v h'=>zto (zav nx rs (spl f)) v h'∧Old h h':=by
 refine zec kk.dropVol _ _ _ _ _ h _ fun g0 e0 g1 e1 g2 e2=>?_
 have o2:=zab e2
 have n2:=zaa e2
 have n1:=zaa e1
 have n0:=zaa e0
 have d2:=(HdB.of e0 e1).old o2
 have hn:=T.1
 have c2:∀{g:AH},Old g2 g→g.get g1.next=some (.cells (setC zaq) 81 false):=fun o=>(o.2 _ (by omega)).trans (zaf e2)
 have errB:∀{g:AH} {e:Int},Old g2 g→zav nx rs (spl f)=(nx,rs,zaq,e)→_:=fun {g} {e} og q=>zv3 (d2.old og) T form (l:=g1.next) (by omega) (c2 og) (C:=fun i p' n' c' g'=>∃i41:Int,∃s42:ByteArray,∃b43:Bool,∃i44:Int,∃i45:Int,∃i46:Int,∃i47:Int,∃i48:Int,∃i49:Int,∃i50:Int,∃(p51:Option Addr) (n52 c53:Nat),ldN g' g1.next 0 11=some [.int .u64 i41,.string s42,.bool b43,.int .u64 i44,.int .u64 i45,.int .u64 i46,.int .i64 i47,.int .i64 i48,.int .u64 i49,.int .u32 i50,.slice p51 n52 c53]∧
  (zto (zav nx rs (spl f)) (.tuple #[.agg #[.int .u64 i,.slice p' n' c'],.agg #[.int .u64 i41,.string s42,.bool b43,.int .u64 i44,.int .u64 i45,.int .u64 i46,.int .i64 i47,.int .i64 i48,.int .u64 i49,.int .u32 i50,.slice p51 n52 c53],.int .i64 e]) g'∧Old h g')) fun g' br o cz=>⟨_,_,_,_,_,_,_,_,_,_,_,_,_,zah cz rfl,⟨_,_,_,_,zaq,by rw[q]; rfl,by rw[q]; exact br,zef _,by rw[q]⟩,o⟩
 refine (zrr kk f hf).mono ?_
 rintro _ g4 ⟨⟨rfl,a,ha⟩ | ⟨rfl,ha⟩,o4⟩
 ·have d4:=d2.old o4
  refine .inl ⟨rfl,_,_,_,d4.sl,(zds kk.r16 (c:=c) (T.old d4.o) R f hf).mono ?_⟩
  rintro _ g9 ⟨q,o9⟩
  have d9:=d4.old o9
  rcases namedD q with ⟨i,v,hl,hr,rfl⟩ | ⟨hl,e,he,rfl⟩
  ·refine⟨_,_,_,_,_,_,_,_,_,_,_,_,_,_,rfl,fun g24 e24=>?_⟩
   obtain⟨g25,k25,n25,o25,v25⟩:=zap e24 (vs:=setC v) rfl
   have w25:=(v25 [] (fun c hc=>by cases hc)).1
   have d25:=d9.old o25
   have hvm:v∈rs:=List.mem_of_getElem? hr
   have okv:=T.ok v hvm
   have hA:zav nx rs (spl f)=if 0 < (rs.filter fun x=>x.snap && decide (x.own=v.id)).length then (nx,rs,zaq,173) else (nx,rs.filter fun r=>!decide (r.id=v.id),v,0):=by unfold zav; rw[ha]; simp only; rw[hl]; simp only; rw[hr]
   refine⟨rfl,g25,k25,fun _=>⟨_,_,_,d25.sl,fun i33 k g=>∃u:Nat,i33=u∧u≤n∧n - u=k∧Old g25 g∧∀(q:Nat) x,q < u→rs[q]?= some x→¬(x.snap=true∧x.own=v.id),⟨_,0,rfl,Nat.zero_le _,rfl,Old.refl _,fun j x hj=>absurd hj (Nat.not_lt_zero _)⟩,?_⟩,fun z=>absurd rfl z⟩
   rintro k30 g31 i33 ⟨u,rfl,hu,rfl,o31,hb⟩
   have d31:=d25.old o31
   have l25:g9.next < g31.next:=by have:=o31.1; omega
   have w31:=(o31.2 g9.next (by omega)).trans w25
   refine⟨fun z=>?_,fun z=>?_⟩
   ·obtain⟨b,off,rfl,hu',hld, -,ok⟩:=(T.old d31.o).at (i:=u) (by omega)
    refine zag ⟨by omega,z,_,_,_,_,_,_,_,_,_,_,_,_,_,by rw[Int.toNat_natCast]; exact hld,fun g49 e49=>?_⟩
    obtain⟨g50,k50,n50,o50,v50⟩:=zap e49 (vs:=setC rs[u]) rfl
    have w50:=(v50 [] (fun c hc=>by cases hc)).1
    have wv50:=(o50.2 g9.next l25).trans w31
    have nxt:¬(rs[u].snap=true∧rs[u].own=v.id)→∀i77:Int,i77=IntKind.wrap .i64 ((u:Int)+1)→∃j32,j32 < n - u∧∃u' : Nat,i77=u'∧u'≤n∧n - u'= j32∧Old g25 g50∧∀(q:Nat) x,q < u'→rs[q]?= some x→¬(x.snap=true∧x.own=v.id):=fun hno i77 e77=>by
     refine⟨_,by omega,u+1,(zcj e77 (by omega) (by omega)).trans rfl,by omega,rfl,o31.trans o50,fun q x hq hx=>?_⟩
     by_cases hju:q=u
     ·subst hju
      rw[List.getElem?_eq_getElem hu'] at hx
      cases hx
      exact hno
     ·exact hb q x (by omega) hx
    refine⟨rfl,g50,k50,?_⟩
    cases hs:rs[u].snap with
    | true=>
      refine .inl ⟨zae w50 (by show (_:Option Value)=some (.bool true); rw[←hs]; rfl),_,zae w50 rfl,_,zae wv50 rfl,fun q1=>errB (((o4.trans o9).trans o25).trans (o31.trans o50)) ?_,fun q1=>nxt fun z=>q1 z.2⟩
      rw[hA,if_pos]
      exact List.length_pos_of_mem (List.mem_filter.2 ⟨List.getElem_mem hu',by simp[hs,q1]⟩)
    | false=>exact .inr ⟨zae w50 (by show (_:Option Value)=some (.bool false); rw[←hs]; rfl),nxt fun z=>by rw[hs] at z; cases z.1⟩
   ·obtain rfl:u=n:=by omega
    have hf0:(rs.filter fun x=>x.snap && decide (x.own=v.id))=[]:=List.filter_eq_nil_iff.2 fun x hx=>by
     obtain⟨q,hq,rfl⟩:=List.mem_iff_getElem.1 hx
     have:=hb q _ (by omega) (List.getElem?_eq_getElem hq)
     simpa using this
    rw[hf0] at hA
    rw[if_neg (by decide)] at hA
    refine⟨_,_,_,d31.sl,_,zae w31 rfl,(zv2 kk (T.old d31.o) hn40 v.id).mono ?_⟩
    rintro _ g84 ⟨p85,n85,c87,rfl,hle,G,o84⟩
    have d84:=d31.old o84
    have m9:=d9.lt
    have m0:=d9.n0
    have m31:=o31.1
    have m84:=o84.1
    have wv84:=(o84.2 g9.next l25).trans w31
    have cz84:g84.get g1.next=some (.cells (setC zaq) 81 false):=c2 ((((o4.trans o9).trans o25).trans o31).trans o84)
    have s1:=zak g0.next g84 (.cells [.int .u64 nx,.slice p85 n85 c87] 29 false)
    have cl:=(s1.2 g1.next (by omega)).trans cz84
    have hl9:g1.next < g9.next:=by have:=o4.1; have:=o9.1; omega
    have wv89:=(s1.2 g9.next (by omega)).trans wv84
    have s2:=zak g1.next (g84.set g0.next (.cells [.int .u64 nx,.slice p85 n85 c87] 29 false)) (.cells (setC v) 81 false)
    have o':=zao (zao d84.o s1 (by omega)) s2 (by omega)
    have G2:=(G.near s1 (by omega) (Nat.le_refl _)).near s2 (by omega) (Nat.le_refl _)
    exact⟨_,_,_,rfl,_,d84.nx,rfl,_,zat d84.c1 rfl,_,_,_,_,_,_,_,_,_,_,_,_,_,zah wv89 rfl,rfl,_,zat cl rfl,d31.nx,d84.nx,zah w31 rfl,zah wv84 rfl,zah wv84 rfl,zah wv89 rfl,_,_,_,_,zah ((s2.2 _ (by omega)).trans (zad _ _ _)) rfl,_,_,_,_,_,_,_,_,_,_,_,_,_,zah (zad _ _ _) rfl,⟨_,_,_,_,v,by rw[hA]; rfl,by rw[hA]; exact⟨rfl,G2.form,_,zdd G2 (by omega) (fun r hr'=>(T.ok r (List.mem_filter.1 hr').1).old o'),rfl⟩,okv.old o',by rw[hA]⟩,o'⟩
  ·refine⟨_,_,_,_,_,_,_,_,_,_,_,_,_,_,rfl,fun g24 e24=>?_⟩
   obtain⟨g25,k25,n25,o25,v25⟩:=zap e24 (vs:=setC zaq) rfl
   exact⟨rfl,g25,k25,fun z=>absurd z he,fun _=>errB ((o4.trans o9).trans o25) (by unfold zav; rw[ha]; simp only; rw[hl])⟩
 ·exact .inr ⟨rfl,errB o4 (by unfold zav; rw[zdX ha])⟩
end
def zvb (o:Int×List zaj×List PtI×Int) (v:Value) (g:AH):Prop:=∃i p' n' c' pl nl cl,v=.tuple #[.agg #[.int .u64 i,.slice p' n' c'],.slice pl nl cl,.int .i64 o.2.2.2]∧zbw o.1 o.2.1 i p' n' g∧DL g pl nl o.2.2.1
theorem zbw.cor {nx:Int} {R R' : List zaj} {i:Int} {p:Option Addr} {n:Nat} {g:AH} (b:zbw nx R i p n g) (h:R.map Am.cor=R'.map Am.cor):zbw nx R' i p n g:=by
 obtain⟨h1,h2,rs',h3,h4⟩:=b
 exact⟨h1,h2,rs',h3,h4.trans h⟩
theorem zvc {nx:Int} {rs:List zaj} (R:zam nx rs) {z r' : zaj} (hz:z∈rs) {f:zaj→zaj} (hne:∀r,r.id≠z.id→f r=r) (hid:r'.id=z.id) (hc:cor r'= cor (f z)):(zn6 r' rs).map cor=(rs.map f).map cor:=by
 unfold zn6
 rw[List.map_map,List.map_map]
 refine List.map_congr_left fun r hr=>?_
 simp only[Function.comp]
 rw[hid]
 by_cases e:r.id=z.id
 ·rw[if_pos e,R.fam.uniq hr hz e,hc]
 ·rw[if_neg e,hne r e]
theorem zjb {nx:Int} {rs:List zaj} (R:zam nx rs) {o:Option (ByteArray×ByteArray)} {a b:ByteArray} {i:Nat} {v:zaj} (ha:snapOf o=some (a,b)) (hl:lookOf rs o=some i) (hv:rs[i]?= some v):v.snap=true:=by
 cases o with
 | none=>cases ha
 | some q=>
   obtain⟨x,y⟩:=q
   unfold snapOf at ha
   simp only at ha
   split at ha
   ·cases ha
   ·rename_i e
    cases ha
    unfold lookOf lookN at hl
    simp only at hl
    cases hp:plcC rs (0,a) with
    | none=>rw[hp] at hl; cases hl
    | some j=>
      rw[hp] at hl
      simp only at hl
      rw[if_neg e] at hl
      obtain⟨w,hw, -⟩:=zee hp
      rw[hw] at hl
      simp only at hl
      obtain⟨r,hr,hc⟩:=zee hl
      rw[hv] at hr
      cases hr
      have:=(R.ent (List.mem_of_getElem? hw)).1.1
      exact ((R.calk (List.mem_of_getElem? hv) hc).2.2 (by omega)).1
section
variable {K:Xs} {h:AH} {p:Option Addr} {n c:Nat} {rs:List zaj} {nx:Int}
theorem zw4 {g0 g:AH} (d:HdB h g0 g nx p n c) {nx' : Int} {L n' c' : Nat} {p' : Option Addr} {R:List zaj} (G:zaY L g 81 11 p' n' c' (setsC R)) (hL:g0.next < L) (hn' : n'≤100000) (ok:∀g',Old h g'→zbR g0.next g g'→∀r∈R,zbC g' r) {C:Int→Option Addr→Nat→Nat→AH→Prop} (HC:∀g',zbw nx' R nx' p' n' g'→Old h g'→zbR g0.next g g'→C nx' p' n' c' g'):
 ∃h17:AH,stN g g0.next 0 [.int .u64 nx',.slice p' n' c']=some h17∧∃i18:Int,∃(p19:Option Addr) (n20 c21:Nat),ldN h17 g0.next 0 2=some [.int .u64 i18,.slice p19 n20 c21]∧C i18 p19 n20 c21 h17:=by
 have l1:=d.lt
 have l2:=d.n0
 refine zuh (by omega) d.c1 rfl fun g' nr=>?_
 have o':=zao d.o nr (by omega)
 have G':=G.near nr hL (Nat.le_refl _)
 exact HC g' ⟨rfl,G'.form,R,zdd G' hn' (ok g' o' nr),rfl⟩ o' nr
theorem zpU (kk:zdm K) (T:zbL h p n rs) (form:zhk p) (R:zam nx rs) (hn40:n≤1000) (f:ByteArray) (hf:f.size≤9223372036854775806) {A:Int×List zaj×List PtI×Int} (hA:A=zaw nx rs (lookOf rs (spl f)) (snapOf (spl f)).isSome):
 Wf Tryz.prog K 38 [.agg #[.int .u64 nx,.slice p n c],.string f] h fun v h'=>zvb A v h'∧Old h h':=by
 refine zdK kk.dropSnap _ _ _ _ _ h _ fun g0 e0 g1 e1=>?_
 have d1:=HdB.of e0 e1
 have hn:=T.1
 have err:∀{e:Int},A=(nx,rs,[],e)→∀{c:Nat} {g g' : AH},zbw nx rs nx p n g'→Old h g'→zbR g0.next g g'→zvb A (.tuple #[.agg #[.int .u64 nx,.slice p n c],.slice none 0 0,.int .i64 e]) g'∧Old h g':=fun {e} e' {c} {g} {g'} br o _=>⟨⟨_,_,_,_,none,0,0,by rw[e'],by rw[e']; exact br,by rw[e']; exact DL.nil _⟩,o⟩
 refine (zrs kk f hf).mono ?_
 rintro _ g3 ⟨⟨rfl,⟨a,b⟩,ha⟩ | ⟨rfl,ha⟩,o3⟩
 ·have d3:=d1.old o3
  rw[ha,Option.isSome_some] at hA
  unfold zaw at hA
  rw[if_neg (by decide)] at hA
  refine .inl ⟨rfl,_,_,_,d3.sl,(zds kk.r16 (c:=c) (T.old d3.o) R f hf).mono ?_⟩
  rintro _ g8 ⟨q,o8⟩
  have d8:=d3.old o8
  rcases namedD q with ⟨i,s,hl,hr,rfl⟩ | ⟨hl,e,he,rfl⟩
  ·refine⟨_,_,_,_,_,_,_,_,_,_,_,_,_,_,rfl,fun g23 e23=>?_⟩
   obtain⟨g24,k24,n24,o24,v24⟩:=zap e23 (vs:=setC s) rfl
   have w24:=(v24 [] (fun c hc=>by cases hc)).1
   have d24:=d8.old o24
   have hsm:s∈rs:=List.mem_of_getElem? hr
   have oks:=T.ok s hsm
   have hss:=zjb R ha hl hr
   obtain⟨j,z,hj,hz, -, -, -⟩:=R.nextOk hr hss
   have hzm:z∈rs:=List.mem_of_getElem? hz
   have okz:=T.ok z hzm
   rw[hl] at hA
   simp only at hA
   rw[hr] at hA
   simp only at hA
   have hwf:∀{g:AH},Old g24 g→g.get g8.next=some (.cells (setC s) 81 false):=fun o=>(o.2 _ (by omega)).trans w24
   refine⟨rfl,g24,k24,fun _=>⟨_,_,_,d24.sl,_,zae w24 rfl,(zvW kk.r16 (c:=c) (T.old d24.o) hn40 s.id).mono ?_⟩,fun z=>absurd rfl z⟩
   rintro _ g30 ⟨p1,m1,c1,p2,m2,c2,rfl,S1,S2,o30⟩
   have d30:=d24.old o30
   have hm2:m2=(clL rs s.id).length:=by have:=S2.1; rw[zdl] at this; omega
   have hm1:m1=(zlz rs s.id).length:=by have:=S1.1; rw[zdl] at this; omega
   refine⟨_,_,_,_,_,_,rfl,fun q=>zhA d30 T form fun g'=>err (by rw[hA,if_pos (by omega)]),fun q=>?_⟩
   rw[if_neg (by omega),hj] at hA
   simp only at hA
   rw[hz] at hA
   simp only at hA
   have hne:nextR rs s.id≠0:=fun e=>by rw[e,R.zero] at hj; cases hj
   have hown:0 < (zlz rs s.id).length:=by
    rw[zmE] at hne
    cases ho:zlz rs s.id with
    | nil=>rw[ho] at hne; exact absurd rfl hne
    | cons x l=>exact Nat.succ_pos _
   obtain⟨bk,offk,rfl,hk⟩:=S1.get (i:=0) (by omega)
   refine⟨_,_,_,d30.sl,zag ⟨by omega,by omega,nextR rs s.id,?_,(ze1 kk.r16 (c:=c) (T.old d30.o) (nextR rs s.id)).mono ?_⟩⟩
   ·rw[Nat.add_zero,zk8 hown,zu2 hown,←zmE] at hk
    exact hk
   rintro _ g53 ⟨⟨j',z',hj',hz',rfl⟩ | ⟨hj',rfl⟩,o53⟩
   ·have d53:=d30.old o53
    rw[hj] at hj'
    cases hj'
    rw[hz] at hz'
    cases hz'
    refine⟨_,_,_,_,_,_,_,_,_,_,_,_,_,.inl ⟨rfl,fun g67 e67=>?_⟩⟩
    obtain⟨g68,k68,n68,o68,v68⟩:=zap e67 (vs:=setC z) rfl
    have wz68:=(v68 [] (fun c hc=>by cases hc)).1
    have d68:=d53.old o68
    have o2468:=(o30.trans o53).trans o68
    refine⟨rfl,g68,k68,_,_,_,d68.sl,_,zae (hwf o2468) rfl,(zre kk.r16 (c:=c) (T.old d68.o) R.zero s.id).mono ?_⟩
    rintro _ g74 ⟨rfl,o74⟩
    have d74:=d68.old o74
    have wz74:=(o74.2 g53.next (by omega)).trans wz68
    have ez:=R.ent hzm
    have es:=R.ent hsm
    have dz:=ez.2.2.2.2.2.2.1
    have ds:=es.2.2.2.2.2.2.1
    refine⟨_,rfl,_,_,_,zae wz74 rfl,(zu5 kk.d13 (okz.old d74.o).dl (by omega) (flr rs s.id)).mono ?_⟩
    rintro _ g80 ⟨⟨pa,ma,ca,pb,mb,cb,rfl,G1,G2⟩,o80⟩
    have d80:=d74.old o80
    have D1:=znZ G1 (fun q hq=>okz.dead q (List.mem_filter.1 hq).1)
    have D2:=znZ G2 (fun q hq=>okz.dead q (List.mem_filter.1 hq).1)
    have hma:ma≤4000:=by
     rw[D1.len]
     have:(oldD (flr rs s.id) z.dead).length≤z.dead.length:=List.length_filter_le _ _
     have:=okz.len
     omega
    have o2480:=(o2468.trans o74).trans o80
    refine⟨_,_,_,_,_,_,rfl,zae wz68 rfl,zae wz74 rfl,_,_,_,zae (hwf o2480) rfl,(zu6 kk.d13 D1 (oks.old d80.o).dl (by omega) (by omega)).mono ?_⟩
    have hmg:mrg (oldD (flr rs s.id) z.dead) s.dead=zrg (oldD (flr rs s.id) z.dead) s.dead:=zvY (ez.2.2.2.2.2.2.2.1.filter _).srt.1 es.2.2.2.2.2.2.2.1.srt.1 es.2.2.2.2.2.2.2.1.srt.2
    rw[hmg] at hA
    rintro _ g91 ⟨⟨d,p3,m3,c3,hmr,rfl,D3,C3,b3⟩ | ⟨hmr,rfl⟩,o91⟩
    ·have d91:=d80.old o91
     rw[hmr] at hA
     simp only at hA
     have l3:=D3.len
     refine⟨_,_,_,_,rfl,fun _=>⟨fun q=>zhA d91 T form fun g'=>err (by rw[hA,if_pos (by omega)]),fun q=>?_⟩,fun z=>absurd rfl z⟩
     rw[if_neg (by omega)] at hA
     have m91:=o91.1
     have m80:=o80.1
     have m74:=o74.1
     have m8:=d8.lt
     have m0:=d8.n0
     have m53:=d53.lt
     have w91:=hwf (o2480.trans o91)
     have m30:=o30.1
     have m530:=o53.1
     have hl8:g8.next < g53.next:=by omega
     have wz91:=((o80.trans o91).2 g53.next (by omega)).trans wz74
     obtain⟨g105,k105,nr105,w105⟩:=zmI (v:=.slice p3 m3 c3) wz91 (i:=10) (by simp[setC])
     obtain⟨g107,k107,nr107,w107⟩:=zmI (v:=.int .u64 s.prev) w105 (i:=4) (by simp[setC])
     have nr:=nr105.trans nr107
     have ws105:=(nr105.2 g8.next (by omega)).trans w91
     have ws107:=(nr107.2 g8.next (by omega)).trans ws105
     have d107:=d91.near nr (by omega)
     generalize hr' : ({ z with prev:=s.prev,dp:=p3,dn:=m3,dc:=c3,dead:=d }:zaj)=r' at *
     have w107:g107.get g53.next=some (.cells (setC r') 81 false):=by rw[←hr']; exact w107
     have okr:∀{g:AH},g91.next≤g.next→(∀a,p3=some a→g.get a.block=g91.get a.block)→zbC g r':=fun {g} hn k=>by
      rw[←hr']
      have D3':=D3.kept hn k
      exact⟨okz.id,okz.own,oks.prev,okz.stamp,okz.root,D3'.wf,D3'.form,by have:reachBytes=140737488351232:=rfl; show m3 * 24≤_; omega,D3'.len,D3'.shows⟩
     have k107' : ∀a,p3=some a→g107.get a.block=g91.get a.block:=fun a ha=>nr.2 _ (by have:=b3 a ha; omega)
     have hid:r'.id=z.id:=by rw[←hr']
     have hcr:cor r'= cor (zcP z s.prev d z):=by
      rw[zdT,←hr']
      exact zfR ⟨rfl,rfl,rfl,rfl,rfl,rfl,rfl,rfl,l3,rfl⟩
     refine⟨g105,k105,_,zae ws105 rfl,g107,k107,_,_,_,d107.sl,_,_,_,_,_,_,_,_,_,_,_,_,_,zah w107 rfl,(ztm kk (T.old d107.o) hn40 (s:=r') (okr (by rw[nr.1]; exact Nat.le_refl _) k107')).mono ?_⟩
     rintro _ g125 ⟨p126,c128,rfl,G3,o125⟩
     have d125:=d107.old o125
     have n107:=nr.1
     have m125:=o125.1
     have ws125:=(o125.2 g8.next (by omega)).trans ws107
     have k125:∀a,p3=some a→g125.get a.block=g91.get a.block:=fun a ha=>(o125.2 _ (by have:=b3 a ha; omega)).trans (k107' a ha)
     have okp:∀{g:AH},Old h g→zbC g r'→∀r∈zn6 r' rs,zbC g r:=fun {g} o k r hr=>by
      obtain⟨y,hy,rfl⟩:=List.mem_map.1 hr
      split
      ·exact k
      ·exact (T.ok y hy).old o
     have T125:zbL g125 p126 n (zn6 r' rs):=zdd G3 (by omega) (okp d125.o (okr (by omega) k125))
     refine⟨_,_,_,rfl,_,zae ws125 rfl,(zv2 kk T125 hn40 s.id).mono ?_⟩
     rintro _ g131 ⟨p132,n133,c134,rfl,hle,G4,o131⟩
     have d131:=d125.old o131
     have m131:=o131.1
     have k131:∀a,p3=some a→g131.get a.block=g91.get a.block:=fun a ha=>(o131.2 _ (by have:=b3 a ha; omega)).trans (k125 a ha)
     obtain⟨g136,k136,i137,p138,n139,c140,k137,HC⟩:=zw4 (nx':=nx) d131 G4 (by omega) (by omega) (fun g' o nr' r hr'=>okp o (okr (by rw[nr'.1]; omega) fun a ha=>(nr'.2 _ (by have:=b3 a ha; omega)).trans (k131 a ha)) r (List.mem_filter.1 hr').1) (C:=fun i p n c g=>zvb A (.tuple #[.agg #[.int .u64 i,.slice p n c],.slice pb mb cb,.int .i64 0]) g∧Old h g) fun g' br o nr'=>by
      refine⟨⟨_,_,_,_,_,_,_,by rw[hA],by rw[hA]; exact br.cor (zcR (zvc R hzm (fun r hne=>zeh hne _ _) hid hcr) _ (fun a=>rfl) cor (fun a=>rfl)),?_⟩,o⟩
      rw[hA]
      exact ((D2.old o91).kept (g':=g') (by rw[nr'.1]; omega) fun a ha=>by
       have hb:=G2.block ha
       rw[nr'.2 _ (by omega),o131.2 _ (by omega),o125.2 _ (by omega),nr.2 _ (by omega)])
     exact⟨_,_,_,rfl,_,d131.nx,rfl,g136,k136,zae ws107 rfl,zae ws125 rfl,d107.nx,d125.nx,d125.nx,d131.nx,i137,p138,n139,c140,k137,HC⟩
    ·have d91:=d80.old o91
     rw[hmr] at hA
     exact⟨_,_,_,_,rfl,fun z=>absurd z (by decide),fun _=>zhA d91 T form fun g'=>err (by rw[hA])⟩
   ·rw[hj] at hj'
    cases hj'
  ·refine⟨_,_,_,_,_,_,_,_,_,_,_,_,_,_,rfl,fun g23 e23=>?_⟩
   obtain⟨g24,k24,n24,o24,v24⟩:=zap e23 (vs:=setC zaq) rfl
   rw[hl] at hA
   exact⟨rfl,g24,k24,fun z=>absurd z he,fun _=>zhA (d8.old o24) T form fun g'=>err (by rw[hA])⟩
 ·rw[zgn ha] at hA
  exact .inr ⟨rfl,zhA (d1.old o3) T form fun g'=>err (by rw[hA]; rfl)⟩
end
section
variable {K:Xs} {h:AH} {p:Option Addr} {n c:Nat} {rs:List zaj} {nx:Int}
end
end Go.Am
